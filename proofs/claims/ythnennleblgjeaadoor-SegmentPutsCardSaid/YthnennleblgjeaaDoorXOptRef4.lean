/- The laws of option: the document's option of some bytes. (Printed by genparse.py.) -/
import Derived.Test.YthnennleblgjeaaDoorMd
namespace Go.Proofs.YthnennleblgjeaaDoor
set_option linter.unusedVariables false
set_option linter.unusedSimpArgs false
open Go.ChangeShapes Go.WideShapes Go.ChangeAt Go.RowKit
set_option linter.unusedVariables false
set_option linter.unusedSimpArgs false
theorem run_mid (b off len c i j : Nat) (hij : i ≤ j) (hj : j ≤ len) (hc : len ≤ c) (hi : i < c) (w : World) :
    (Instr.sliceAt 24 (.slice (some ⟨b, off, none⟩) len c) (some (.int .i64 i)) (some (.int .i64 j)) none).run Tryd.prog w = .ok (.slice (some ⟨b, off + i, none⟩) (j - i) (c - i)) w := by
  obtain ⟨I, hI, hz⟩ := Option.map_eq_some_iff.1 (show (Tryd.prog.info? 5).map (·.size) = some 1 by kernel_rfl)
  simp only [Instr.sliceAt, Instr.slice, Sem.run_bind, run_underlying Tryd.underlying24, Result.andThen_ok, Instr.sliceBounds, Sem.run_pure]
  rw [run_sliceBound (w := w) .i64 j c _ (by omega) (by omega)]
  simp only [Result.andThen_ok, Int.toNat_natCast]
  rw [run_sliceBound (w := w) .i64 i j _ (by omega) (by omega)]
  simp [sizeOf, typeInfo, hI, hz, Result.andThen, Go.WideShapes.add_plain]
  omega
theorem BS.mid {w : World} {b off c : Nat} {xs : List Int} (h : BS w (some ⟨b, off, none⟩) c xs) (i n : Nat) (hi : i + n ≤ xs.length) : BS w (some ⟨b, off + i, none⟩) (c - i) ((xs.drop i).take n) := by
  have hle := h.le
  refine ⟨(h.1.drop i).take n, by rw [cellB_length, List.length_take, List.length_drop]; omega, by have := h.2.2.1; omega, (fun e => by cases e), fun hp => ?_⟩
  rw [cellB_length, List.length_take, List.length_drop] at hp
  obtain ⟨b', off', e, hb, hc⟩ := h.2.2.2.2 (by rw [cellB_length]; omega)
  injection e with e
  injection e with e1 e2
  subst e1 e2
  refine ⟨_, _, rfl, hb, fun j v hv => ?_⟩
  rw [Nat.add_assoc]
  refine hc (i + j) v ?_
  have hj := (List.getElem?_eq_some_iff.1 hv).1
  rw [cellB_length, List.length_take, List.length_drop] at hj
  rw [← hv]
  simp only [cellB, List.getElem?_map, List.getElem?_take, List.getElem?_drop]
  rw [if_pos (by omega)]
theorem BS.cellAt {w : World} {b off c : Nat} {xs : List Int} (h : BS w (some ⟨b, off, none⟩) c xs) (i : Nat) (hi : i < xs.length) : w.cell? ⟨b, off + i, none⟩ = some (.int .u8 (xs.getD i 0)) := by
  obtain ⟨b', off', e, hb, hc⟩ := h.at_ hi
  injection e with e
  injection e with e1 e2
  subst e1 e2
  exact hc
theorem num_one {xs : List Int} {i : Nat} (hi : i < xs.length) : num ((xs.drop i).take 1) = xs.getD i 0 := by
  have e : xs.getD i 0 = xs[i] := by simp [List.getD, hi]
  rw [List.drop_eq_getElem_cons hi, List.take_succ_cons, List.take_zero, e]
  simp only [num, List.foldl_cons, List.foldl_nil]
  omega
theorem BS.keptTo {w w' : World} {b off c x3 : Nat} {xs : List Int} (h : BS w (some ⟨b, off, none⟩) c xs) (hx : b ≠ x3) (hk : Kept (fun k => k = x3) w w') : BS w' (some ⟨b, off, none⟩) c xs :=
  ⟨h.1, h.2.kept hk (fun b' o e => by injection e with e; injection e with e1 e2; subst e1; exact hx)⟩
theorem Kept.setB4 {a w' : World} {b i : Nat} {u : Value} (h : Kept (fun x => x = b) a w') : Kept (fun x => x = b) a (w'.setCell ⟨b, i, none⟩ u) := h.setIn (p := ⟨b, i, none⟩) rfl u
def ParseOf (xs : List Int) (w : World) (r : Ending) (w' : World) : Prop := r = .returned (.agg (optL (parseV xs)).toArray) ∧ Fine w w'
set_option maxHeartbeats 4000000 in
set_option maxRecDepth 100000 in
theorem parse_1 (A : Option Addr) (c : Nat) (xs : List Int) (w : World) (h : BS w A c xs) (hk : num (xs.take 1) = 1) (hl : xs.length = 9) : Calls Tryd.prog 60 #[.slice A 9 c] w (ParseOf xs w) := by
  obtain ⟨b, off, rfl, hb, _⟩ := h.at_ (k := 0) (by omega)
  have hc : 9 ≤ c := by have := h.le; omega
  have hz0 : xs.getD 0 0 = 1 := by have := num_one (xs := xs) (i := 0) (by omega); rw [List.drop_zero] at this; rw [← this]; exact hk
  obtain ⟨y1, hy1⟩ : ∃ y, num ((xs.drop 1).take 8) = y := ⟨_, rfl⟩
  have by1 := num_bd 8 ((xs.drop 1).take 8) (by rw [List.length_take, List.length_drop]; omega) ((h.bytes.drop _).take _)
  rw [hy1] at by1
  simp only [Int.reducePow] at by1
  have HE : Hid ((optL (parseV xs)).toArray = #[.int .i64 1, .int .u64 y1, .int .u64 0, .int .u32 0, .int .u32 0, .int .i64 0, .int .i64 0, .bool false, .bool false, .int .i64 0, .bool false, .int .i64 0, .int .i64 0, .bool false]) := Lib.hid (by
    unfold parseV
    rw [hk]
    simp only [fieldsOf, parseF, List.drop_drop, Nat.reduceAdd, hy1]
    simp [optL, upd, kindV, setV, fk]
    try (repeat' apply And.intro)
    all_goals rfl)
  have HB := Lib.hid h; clear h
  have HY := Lib.hid hk; clear hk
  have ca : ∀ o, (w.alloc o).cell? ⟨b, off, none⟩ = some (.int .u8 1) := fun o => by rw [← hz0]; exact (HB.out.fine ((Fine.refl w).alloc o)).cellAt 0 (by omega)
  have hbw : b ≠ w.heap.size := by omega
  have hbw1 : b ≠ w.heap.size + 1 := by omega
  go_enter Tryd.func60, Tryd.ntmps60
  go_wp2_with fail
  have B3 : Blk ((w.alloc (.cells #[.int .i64 0, .int .u64 0, .int .u64 0, .int .u32 0, .int .u32 0, .int .i64 0, .int .i64 0, .bool false, .bool false, .int .i64 0, .bool false, .int .i64 0, .int .i64 0, .bool false] 69)).alloc (.cells #[.int .i64 1, .int .u64 0, .int .u64 0, .int .u32 0, .int .u32 0, .int .i64 0, .int .i64 0, .bool false, .bool false, .int .i64 0, .bool false, .int .i64 0, .int .i64 0, .bool false] 69)) (w.heap.size + 1) 69 #[.int .i64 1, .int .u64 0, .int .u64 0, .int .u32 0, .int .u32 0, .int .i64 0, .int .i64 0, .bool false, .bool false, .int .i64 0, .bool false, .int .i64 0, .int .i64 0, .bool false] := (Blk.newAt (w := (w.alloc (.cells #[.int .i64 0, .int .u64 0, .int .u64 0, .int .u32 0, .int .u32 0, .int .i64 0, .int .i64 0, .bool false, .bool false, .int .i64 0, .bool false, .int .i64 0, .int .i64 0, .bool false] 69))) (g := w.heap.size + 1) (t := 69) (cs := #[.int .i64 1, .int .u64 0, .int .u64 0, .int .u32 0, .int .u32 0, .int .i64 0, .int .i64 0, .bool false, .bool false, .int .i64 0, .bool false, .int .i64 0, .int .i64 0, .bool false]) (by simp))
  have B2 : Blk ((w.alloc (.cells #[.int .i64 0, .int .u64 0, .int .u64 0, .int .u32 0, .int .u32 0, .int .i64 0, .int .i64 0, .bool false, .bool false, .int .i64 0, .bool false, .int .i64 0, .int .i64 0, .bool false] 69)).alloc (.cells #[.int .i64 1, .int .u64 0, .int .u64 0, .int .u32 0, .int .u32 0, .int .i64 0, .int .i64 0, .bool false, .bool false, .int .i64 0, .bool false, .int .i64 0, .int .i64 0, .bool false] 69)) w.heap.size 69 #[.int .i64 0, .int .u64 0, .int .u64 0, .int .u32 0, .int .u32 0, .int .i64 0, .int .i64 0, .bool false, .bool false, .int .i64 0, .bool false, .int .i64 0, .int .i64 0, .bool false] := ((Blk.new w 69 #[.int .i64 0, .int .u64 0, .int .u64 0, .int .u32 0, .int .u32 0, .int .i64 0, .int .i64 0, .bool false, .bool false, .int .i64 0, .bool false, .int .i64 0, .int .i64 0, .bool false]).alloc (.cells #[.int .i64 1, .int .u64 0, .int .u64 0, .int .u32 0, .int .u32 0, .int .i64 0, .int .i64 0, .bool false, .bool false, .int .i64 0, .bool false, .int .i64 0, .int .i64 0, .bool false] 69))
  have F0 : Fine w ((w.alloc (.cells #[.int .i64 0, .int .u64 0, .int .u64 0, .int .u32 0, .int .u32 0, .int .i64 0, .int .i64 0, .bool false, .bool false, .int .i64 0, .bool false, .int .i64 0, .int .i64 0, .bool false] 69)).alloc (.cells #[.int .i64 1, .int .u64 0, .int .u64 0, .int .u32 0, .int .u32 0, .int .i64 0, .int .i64 0, .bool false, .bool false, .int .i64 0, .bool false, .int .i64 0, .int .i64 0, .bool false] 69)) := (((Fine.refl w).alloc _).alloc _)
  generalize ((w.alloc (.cells #[.int .i64 0, .int .u64 0, .int .u64 0, .int .u32 0, .int .u32 0, .int .i64 0, .int .i64 0, .bool false, .bool false, .int .i64 0, .bool false, .int .i64 0, .int .i64 0, .bool false] 69)).alloc (.cells #[.int .i64 1, .int .u64 0, .int .u64 0, .int .u32 0, .int .u32 0, .int .i64 0, .int .i64 0, .bool false, .bool false, .int .i64 0, .bool false, .int .i64 0, .int .i64 0, .bool false] 69)) = w0 at B3 B2 F0 ⊢
  obtain ⟨x2, hx2⟩ : ∃ x2, w.heap.size = x2 := ⟨_, rfl⟩
  obtain ⟨x3, hx3⟩ : ∃ x3, w.heap.size + 1 = x3 := ⟨_, rfl⟩
  rw [hx3] at B3 ⊢
  rw [hx2] at B2 ⊢
  have hwx2 : w.heap.size ≤ x2 := by omega
  have hwx3 : w.heap.size ≤ x3 := by omega
  have hx23 : x2 ≠ x3 := by omega
  have hbx3 : b ≠ x3 := by omega
  have hbx2 : b ≠ x2 := by omega
  clear hbw hbw1 hx2 hx3 ca
  have HB0 := Lib.hid (HB.out.fine F0)
  refine (number_n (some ⟨b, off + 1, none⟩) 8 (c - 1) ((xs.drop 1).take 8) w0 (HB0.out.mid 1 8 (by omega)) (by rw [List.length_take, List.length_drop]; omega) (by rw [List.length_take, List.length_drop]; omega)).mono ?_
  rintro x u0 ⟨rfl, g0⟩
  rw [hy1]
  have D3 := Lib.hid (B3.fine g0)
  have D2 := Lib.hid (B2.fine g0)
  have HU := Lib.hid (HB0.out.fine g0)
  have FU := F0.trans g0
  clear B3 B2 F0 g0 HB0
  have p0 : u0.cell? ⟨x3, 0, none⟩ = some (.int .i64 1) := D3.out.cell 0
  have o0 : u0.cell? ⟨x2, 0, none⟩ = some (.int .i64 0) := D2.out.cell 0
  have s0 : u0.frozen? ⟨x2, 0, none⟩ = false := D2.out.frozen 0
  have p1 : u0.cell? ⟨x3, 1, none⟩ = some (.int .u64 0) := D3.out.cell 1
  have r_1 : u0.frozen? ⟨x3, 1, none⟩ = false := D3.out.frozen 1
  have o1 : u0.cell? ⟨x2, 1, none⟩ = some (.int .u64 0) := D2.out.cell 1
  have s1 : u0.frozen? ⟨x2, 1, none⟩ = false := D2.out.frozen 1
  have p2 : u0.cell? ⟨x3, 2, none⟩ = some (.int .u64 0) := D3.out.cell 2
  have o2 : u0.cell? ⟨x2, 2, none⟩ = some (.int .u64 0) := D2.out.cell 2
  have s2 : u0.frozen? ⟨x2, 2, none⟩ = false := D2.out.frozen 2
  have p3 : u0.cell? ⟨x3, 3, none⟩ = some (.int .u32 0) := D3.out.cell 3
  have o3 : u0.cell? ⟨x2, 3, none⟩ = some (.int .u32 0) := D2.out.cell 3
  have s3 : u0.frozen? ⟨x2, 3, none⟩ = false := D2.out.frozen 3
  have p4 : u0.cell? ⟨x3, 4, none⟩ = some (.int .u32 0) := D3.out.cell 4
  have o4 : u0.cell? ⟨x2, 4, none⟩ = some (.int .u32 0) := D2.out.cell 4
  have s4 : u0.frozen? ⟨x2, 4, none⟩ = false := D2.out.frozen 4
  have p5 : u0.cell? ⟨x3, 5, none⟩ = some (.int .i64 0) := D3.out.cell 5
  have o5 : u0.cell? ⟨x2, 5, none⟩ = some (.int .i64 0) := D2.out.cell 5
  have s5 : u0.frozen? ⟨x2, 5, none⟩ = false := D2.out.frozen 5
  have p6 : u0.cell? ⟨x3, 6, none⟩ = some (.int .i64 0) := D3.out.cell 6
  have o6 : u0.cell? ⟨x2, 6, none⟩ = some (.int .i64 0) := D2.out.cell 6
  have s6 : u0.frozen? ⟨x2, 6, none⟩ = false := D2.out.frozen 6
  have p7 : u0.cell? ⟨x3, 7, none⟩ = some (.bool false) := D3.out.cell 7
  have o7 : u0.cell? ⟨x2, 7, none⟩ = some (.bool false) := D2.out.cell 7
  have s7 : u0.frozen? ⟨x2, 7, none⟩ = false := D2.out.frozen 7
  have p8 : u0.cell? ⟨x3, 8, none⟩ = some (.bool false) := D3.out.cell 8
  have o8 : u0.cell? ⟨x2, 8, none⟩ = some (.bool false) := D2.out.cell 8
  have s8 : u0.frozen? ⟨x2, 8, none⟩ = false := D2.out.frozen 8
  have p9 : u0.cell? ⟨x3, 9, none⟩ = some (.int .i64 0) := D3.out.cell 9
  have o9 : u0.cell? ⟨x2, 9, none⟩ = some (.int .i64 0) := D2.out.cell 9
  have s9 : u0.frozen? ⟨x2, 9, none⟩ = false := D2.out.frozen 9
  have p10 : u0.cell? ⟨x3, 10, none⟩ = some (.bool false) := D3.out.cell 10
  have o10 : u0.cell? ⟨x2, 10, none⟩ = some (.bool false) := D2.out.cell 10
  have s10 : u0.frozen? ⟨x2, 10, none⟩ = false := D2.out.frozen 10
  have p11 : u0.cell? ⟨x3, 11, none⟩ = some (.int .i64 0) := D3.out.cell 11
  have o11 : u0.cell? ⟨x2, 11, none⟩ = some (.int .i64 0) := D2.out.cell 11
  have s11 : u0.frozen? ⟨x2, 11, none⟩ = false := D2.out.frozen 11
  have p12 : u0.cell? ⟨x3, 12, none⟩ = some (.int .i64 0) := D3.out.cell 12
  have o12 : u0.cell? ⟨x2, 12, none⟩ = some (.int .i64 0) := D2.out.cell 12
  have s12 : u0.frozen? ⟨x2, 12, none⟩ = false := D2.out.frozen 12
  have p13 : u0.cell? ⟨x3, 13, none⟩ = some (.bool false) := D3.out.cell 13
  have o13 : u0.cell? ⟨x2, 13, none⟩ = some (.bool false) := D2.out.cell 13
  have s13 : u0.frozen? ⟨x2, 13, none⟩ = false := D2.out.frozen 13
  go_wp2_with fail
  exact bodyPost_ret (v := .agg #[.int .i64 1, .int .u64 y1, .int .u64 0, .int .u32 0, .int .u32 0, .int .i64 0, .int .i64 0, .bool false, .bool false, .int .i64 0, .bool false, .int .i64 0, .int .i64 0, .bool false]) (by simp [results, Tryd.results60, go_sem, o0, o1, o2, o3, o4, o5, o6, o7, o8, o9, o10, o11, o12, o13]) rfl ⟨by rw [HE.out], (((((((((((((((FU.setCell hwx3 _).setCell hwx2 _).setCell hwx2 _).setCell hwx2 _).setCell hwx2 _).setCell hwx2 _).setCell hwx2 _).setCell hwx2 _).setCell hwx2 _).setCell hwx2 _).setCell hwx2 _).setCell hwx2 _).setCell hwx2 _).setCell hwx2 _).setCell hwx2 _)⟩
set_option maxHeartbeats 4000000 in
set_option maxRecDepth 100000 in
theorem parse_2 (A : Option Addr) (c : Nat) (xs : List Int) (w : World) (h : BS w A c xs) (hk : num (xs.take 1) = 2) (hl : xs.length = 11) : Calls Tryd.prog 60 #[.slice A 11 c] w (ParseOf xs w) := by
  obtain ⟨b, off, rfl, hb, _⟩ := h.at_ (k := 0) (by omega)
  have hc : 11 ≤ c := by have := h.le; omega
  have hz0 : xs.getD 0 0 = 2 := by have := num_one (xs := xs) (i := 0) (by omega); rw [List.drop_zero] at this; rw [← this]; exact hk
  obtain ⟨y1, hy1⟩ : ∃ y, num ((xs.drop 1).take 4) = y := ⟨_, rfl⟩
  have by1 := num_bd 4 ((xs.drop 1).take 4) (by rw [List.length_take, List.length_drop]; omega) ((h.bytes.drop _).take _)
  rw [hy1] at by1
  simp only [Int.reducePow] at by1
  obtain ⟨y5, hy5⟩ : ∃ y, num ((xs.drop 5).take 4) = y := ⟨_, rfl⟩
  have by5 := num_bd 4 ((xs.drop 5).take 4) (by rw [List.length_take, List.length_drop]; omega) ((h.bytes.drop _).take _)
  rw [hy5] at by5
  simp only [Int.reducePow] at by5
  obtain ⟨z9, hz9⟩ : ∃ z, xs.getD 9 0 = z := ⟨_, rfl⟩
  have bz9 := h.bytes.getD 9
  rw [hz9] at bz9
  have hy9 : num ((xs.drop 9).take 1) = z9 := by rw [num_one (by omega), hz9]
  obtain ⟨z10, hz10⟩ : ∃ z, xs.getD 10 0 = z := ⟨_, rfl⟩
  have bz10 := h.bytes.getD 10
  rw [hz10] at bz10
  have hy10 : num ((xs.drop 10).take 1) = z10 := by rw [num_one (by omega), hz10]
  have q1 : y1 % 4294967296 = y1 := by omega
  have q5 : y5 % 4294967296 = y5 := by omega
  have q9 : wrap64 z9 = z9 := by unfold wrap64; omega
  have r9 : IntKind.i64.wrap z9 = z9 := by rw [IntKind.wrap_i64]; omega
  have HE : Hid ((optL (parseV xs)).toArray = #[.int .i64 2, .int .u64 0, .int .u64 0, .int .u32 y1, .int .u32 y5, .int .i64 z9, .int .i64 0, .bool (z10 == 1), .bool false, .int .i64 0, .bool false, .int .i64 0, .int .i64 0, .bool false]) := Lib.hid (by
    unfold parseV
    rw [hk]
    simp only [fieldsOf, parseF, List.drop_drop, Nat.reduceAdd, hy1, hy5, hy9, hy10]
    simp [optL, upd, kindV, setV, fk, q1, q5, q9]
    try (repeat' apply And.intro)
    all_goals rfl)
  clear hy9
  clear hy10
  have S1 : ∀ w, (Instr.sliceAt 24 (.slice (some ⟨b, off, none⟩) 11 c) (some (.int .i64 1)) (some (.int .i64 5)) none).run Tryd.prog w = .ok (.slice (some ⟨b, off + 1, none⟩) 4 (c - 1)) w := fun w => run_mid b off 11 c 1 5 (by omega) (by omega) hc (by omega) w
  have S5 : ∀ w, (Instr.sliceAt 24 (.slice (some ⟨b, off, none⟩) 11 c) (some (.int .i64 5)) (some (.int .i64 9)) none).run Tryd.prog w = .ok (.slice (some ⟨b, off + 5, none⟩) 4 (c - 5)) w := fun w => run_mid b off 11 c 5 9 (by omega) (by omega) hc (by omega) w
  have HB := Lib.hid h; clear h
  have HY := Lib.hid hk; clear hk
  have ca : ∀ o, (w.alloc o).cell? ⟨b, off, none⟩ = some (.int .u8 2) := fun o => by rw [← hz0]; exact (HB.out.fine ((Fine.refl w).alloc o)).cellAt 0 (by omega)
  have hbw : b ≠ w.heap.size := by omega
  have hbw1 : b ≠ w.heap.size + 1 := by omega
  go_enter Tryd.func60, Tryd.ntmps60
  go_wp2_with fail
  have B3 : Blk ((w.alloc (.cells #[.int .i64 0, .int .u64 0, .int .u64 0, .int .u32 0, .int .u32 0, .int .i64 0, .int .i64 0, .bool false, .bool false, .int .i64 0, .bool false, .int .i64 0, .int .i64 0, .bool false] 69)).alloc (.cells #[.int .i64 2, .int .u64 0, .int .u64 0, .int .u32 0, .int .u32 0, .int .i64 0, .int .i64 0, .bool false, .bool false, .int .i64 0, .bool false, .int .i64 0, .int .i64 0, .bool false] 69)) (w.heap.size + 1) 69 #[.int .i64 2, .int .u64 0, .int .u64 0, .int .u32 0, .int .u32 0, .int .i64 0, .int .i64 0, .bool false, .bool false, .int .i64 0, .bool false, .int .i64 0, .int .i64 0, .bool false] := (Blk.newAt (w := (w.alloc (.cells #[.int .i64 0, .int .u64 0, .int .u64 0, .int .u32 0, .int .u32 0, .int .i64 0, .int .i64 0, .bool false, .bool false, .int .i64 0, .bool false, .int .i64 0, .int .i64 0, .bool false] 69))) (g := w.heap.size + 1) (t := 69) (cs := #[.int .i64 2, .int .u64 0, .int .u64 0, .int .u32 0, .int .u32 0, .int .i64 0, .int .i64 0, .bool false, .bool false, .int .i64 0, .bool false, .int .i64 0, .int .i64 0, .bool false]) (by simp))
  have B2 : Blk ((w.alloc (.cells #[.int .i64 0, .int .u64 0, .int .u64 0, .int .u32 0, .int .u32 0, .int .i64 0, .int .i64 0, .bool false, .bool false, .int .i64 0, .bool false, .int .i64 0, .int .i64 0, .bool false] 69)).alloc (.cells #[.int .i64 2, .int .u64 0, .int .u64 0, .int .u32 0, .int .u32 0, .int .i64 0, .int .i64 0, .bool false, .bool false, .int .i64 0, .bool false, .int .i64 0, .int .i64 0, .bool false] 69)) w.heap.size 69 #[.int .i64 0, .int .u64 0, .int .u64 0, .int .u32 0, .int .u32 0, .int .i64 0, .int .i64 0, .bool false, .bool false, .int .i64 0, .bool false, .int .i64 0, .int .i64 0, .bool false] := ((Blk.new w 69 #[.int .i64 0, .int .u64 0, .int .u64 0, .int .u32 0, .int .u32 0, .int .i64 0, .int .i64 0, .bool false, .bool false, .int .i64 0, .bool false, .int .i64 0, .int .i64 0, .bool false]).alloc (.cells #[.int .i64 2, .int .u64 0, .int .u64 0, .int .u32 0, .int .u32 0, .int .i64 0, .int .i64 0, .bool false, .bool false, .int .i64 0, .bool false, .int .i64 0, .int .i64 0, .bool false] 69))
  have F0 : Fine w ((w.alloc (.cells #[.int .i64 0, .int .u64 0, .int .u64 0, .int .u32 0, .int .u32 0, .int .i64 0, .int .i64 0, .bool false, .bool false, .int .i64 0, .bool false, .int .i64 0, .int .i64 0, .bool false] 69)).alloc (.cells #[.int .i64 2, .int .u64 0, .int .u64 0, .int .u32 0, .int .u32 0, .int .i64 0, .int .i64 0, .bool false, .bool false, .int .i64 0, .bool false, .int .i64 0, .int .i64 0, .bool false] 69)) := (((Fine.refl w).alloc _).alloc _)
  generalize ((w.alloc (.cells #[.int .i64 0, .int .u64 0, .int .u64 0, .int .u32 0, .int .u32 0, .int .i64 0, .int .i64 0, .bool false, .bool false, .int .i64 0, .bool false, .int .i64 0, .int .i64 0, .bool false] 69)).alloc (.cells #[.int .i64 2, .int .u64 0, .int .u64 0, .int .u32 0, .int .u32 0, .int .i64 0, .int .i64 0, .bool false, .bool false, .int .i64 0, .bool false, .int .i64 0, .int .i64 0, .bool false] 69)) = w0 at B3 B2 F0 ⊢
  obtain ⟨x2, hx2⟩ : ∃ x2, w.heap.size = x2 := ⟨_, rfl⟩
  obtain ⟨x3, hx3⟩ : ∃ x3, w.heap.size + 1 = x3 := ⟨_, rfl⟩
  rw [hx3] at B3 ⊢
  rw [hx2] at B2 ⊢
  have hwx2 : w.heap.size ≤ x2 := by omega
  have hwx3 : w.heap.size ≤ x3 := by omega
  have hx23 : x2 ≠ x3 := by omega
  have hbx3 : b ≠ x3 := by omega
  have hbx2 : b ≠ x2 := by omega
  clear hbw hbw1 hx2 hx3 ca
  have HB0 := Lib.hid (HB.out.fine F0)
  refine (number_n (some ⟨b, off + 1, none⟩) 4 (c - 1) ((xs.drop 1).take 4) w0 (HB0.out.mid 1 4 (by omega)) (by rw [List.length_take, List.length_drop]; omega) (by rw [List.length_take, List.length_drop]; omega)).mono ?_
  rintro x u0 ⟨rfl, g0⟩
  rw [hy1]
  have D3 := Lib.hid (B3.fine g0)
  have D2 := Lib.hid (B2.fine g0)
  have HU := Lib.hid (HB0.out.fine g0)
  have FU := F0.trans g0
  clear B3 B2 F0 g0 HB0
  have p3 : u0.cell? ⟨x3, 3, none⟩ = some (.int .u32 0) := D3.out.cell 3
  have r_3 : u0.frozen? ⟨x3, 3, none⟩ = false := D3.out.frozen 3
  go_wp2_with fail
  have B3 : Blk (u0.setCell ⟨x3, 3, none⟩ (.int .u32 y1)) x3 69 #[.int .i64 2, .int .u64 0, .int .u64 0, .int .u32 y1, .int .u32 0, .int .i64 0, .int .i64 0, .bool false, .bool false, .int .i64 0, .bool false, .int .i64 0, .int .i64 0, .bool false] := (D3.out.set_ 3 (.int .u32 y1)).cast (by simp)
  have B2 : Blk (u0.setCell ⟨x3, 3, none⟩ (.int .u32 y1)) x2 69 #[.int .i64 0, .int .u64 0, .int .u64 0, .int .u32 0, .int .u32 0, .int .i64 0, .int .i64 0, .bool false, .bool false, .int .i64 0, .bool false, .int .i64 0, .int .i64 0, .bool false] := (D2.out.far (p := ⟨x3, 3, none⟩) hx23 (.int .u32 y1))
  have F0 : Fine w (u0.setCell ⟨x3, 3, none⟩ (.int .u32 y1)) := (FU.setCell (p := ⟨x3, 3, none⟩) hwx3 (.int .u32 y1))
  have HB1 := Lib.hid (HU.out.keptTo hbx3 (show Kept (fun k => k = x3) u0 (u0.setCell ⟨x3, 3, none⟩ (.int .u32 y1)) from (Kept.refl _ _).setB4))
  clear HU FU D3 D2
  clear p3 r_3
  generalize (u0.setCell ⟨x3, 3, none⟩ (.int .u32 y1)) = w1 at B3 B2 F0 HB1 ⊢
  refine (number_n (some ⟨b, off + 5, none⟩) 4 (c - 5) ((xs.drop 5).take 4) w1 (HB1.out.mid 5 4 (by omega)) (by rw [List.length_take, List.length_drop]; omega) (by rw [List.length_take, List.length_drop]; omega)).mono ?_
  rintro x u1 ⟨rfl, g1⟩
  rw [hy5]
  have D3 := Lib.hid (B3.fine g1)
  have D2 := Lib.hid (B2.fine g1)
  have HU := Lib.hid (HB1.out.fine g1)
  have FU := F0.trans g1
  clear B3 B2 F0 g1 HB1
  have e9 : u1.cell? ⟨b, off + 9, none⟩ = some (.int .u8 z9) := by rw [← hz9]; exact HU.out.cellAt 9 (by omega)
  have e10 : u1.cell? ⟨b, off + 10, none⟩ = some (.int .u8 z10) := by rw [← hz10]; exact HU.out.cellAt 10 (by omega)
  have p0 : u1.cell? ⟨x3, 0, none⟩ = some (.int .i64 2) := D3.out.cell 0
  have o0 : u1.cell? ⟨x2, 0, none⟩ = some (.int .i64 0) := D2.out.cell 0
  have s0 : u1.frozen? ⟨x2, 0, none⟩ = false := D2.out.frozen 0
  have p1 : u1.cell? ⟨x3, 1, none⟩ = some (.int .u64 0) := D3.out.cell 1
  have o1 : u1.cell? ⟨x2, 1, none⟩ = some (.int .u64 0) := D2.out.cell 1
  have s1 : u1.frozen? ⟨x2, 1, none⟩ = false := D2.out.frozen 1
  have p2 : u1.cell? ⟨x3, 2, none⟩ = some (.int .u64 0) := D3.out.cell 2
  have o2 : u1.cell? ⟨x2, 2, none⟩ = some (.int .u64 0) := D2.out.cell 2
  have s2 : u1.frozen? ⟨x2, 2, none⟩ = false := D2.out.frozen 2
  have p3 : u1.cell? ⟨x3, 3, none⟩ = some (.int .u32 y1) := D3.out.cell 3
  have o3 : u1.cell? ⟨x2, 3, none⟩ = some (.int .u32 0) := D2.out.cell 3
  have s3 : u1.frozen? ⟨x2, 3, none⟩ = false := D2.out.frozen 3
  have p4 : u1.cell? ⟨x3, 4, none⟩ = some (.int .u32 0) := D3.out.cell 4
  have r_4 : u1.frozen? ⟨x3, 4, none⟩ = false := D3.out.frozen 4
  have o4 : u1.cell? ⟨x2, 4, none⟩ = some (.int .u32 0) := D2.out.cell 4
  have s4 : u1.frozen? ⟨x2, 4, none⟩ = false := D2.out.frozen 4
  have p5 : u1.cell? ⟨x3, 5, none⟩ = some (.int .i64 0) := D3.out.cell 5
  have r_5 : u1.frozen? ⟨x3, 5, none⟩ = false := D3.out.frozen 5
  have o5 : u1.cell? ⟨x2, 5, none⟩ = some (.int .i64 0) := D2.out.cell 5
  have s5 : u1.frozen? ⟨x2, 5, none⟩ = false := D2.out.frozen 5
  have p6 : u1.cell? ⟨x3, 6, none⟩ = some (.int .i64 0) := D3.out.cell 6
  have o6 : u1.cell? ⟨x2, 6, none⟩ = some (.int .i64 0) := D2.out.cell 6
  have s6 : u1.frozen? ⟨x2, 6, none⟩ = false := D2.out.frozen 6
  have p7 : u1.cell? ⟨x3, 7, none⟩ = some (.bool false) := D3.out.cell 7
  have r_7 : u1.frozen? ⟨x3, 7, none⟩ = false := D3.out.frozen 7
  have o7 : u1.cell? ⟨x2, 7, none⟩ = some (.bool false) := D2.out.cell 7
  have s7 : u1.frozen? ⟨x2, 7, none⟩ = false := D2.out.frozen 7
  have p8 : u1.cell? ⟨x3, 8, none⟩ = some (.bool false) := D3.out.cell 8
  have o8 : u1.cell? ⟨x2, 8, none⟩ = some (.bool false) := D2.out.cell 8
  have s8 : u1.frozen? ⟨x2, 8, none⟩ = false := D2.out.frozen 8
  have p9 : u1.cell? ⟨x3, 9, none⟩ = some (.int .i64 0) := D3.out.cell 9
  have o9 : u1.cell? ⟨x2, 9, none⟩ = some (.int .i64 0) := D2.out.cell 9
  have s9 : u1.frozen? ⟨x2, 9, none⟩ = false := D2.out.frozen 9
  have p10 : u1.cell? ⟨x3, 10, none⟩ = some (.bool false) := D3.out.cell 10
  have o10 : u1.cell? ⟨x2, 10, none⟩ = some (.bool false) := D2.out.cell 10
  have s10 : u1.frozen? ⟨x2, 10, none⟩ = false := D2.out.frozen 10
  have p11 : u1.cell? ⟨x3, 11, none⟩ = some (.int .i64 0) := D3.out.cell 11
  have o11 : u1.cell? ⟨x2, 11, none⟩ = some (.int .i64 0) := D2.out.cell 11
  have s11 : u1.frozen? ⟨x2, 11, none⟩ = false := D2.out.frozen 11
  have p12 : u1.cell? ⟨x3, 12, none⟩ = some (.int .i64 0) := D3.out.cell 12
  have o12 : u1.cell? ⟨x2, 12, none⟩ = some (.int .i64 0) := D2.out.cell 12
  have s12 : u1.frozen? ⟨x2, 12, none⟩ = false := D2.out.frozen 12
  have p13 : u1.cell? ⟨x3, 13, none⟩ = some (.bool false) := D3.out.cell 13
  have o13 : u1.cell? ⟨x2, 13, none⟩ = some (.bool false) := D2.out.cell 13
  have s13 : u1.frozen? ⟨x2, 13, none⟩ = false := D2.out.frozen 13
  go_wp2_with fail
  exact bodyPost_ret (v := .agg #[.int .i64 2, .int .u64 0, .int .u64 0, .int .u32 y1, .int .u32 y5, .int .i64 z9, .int .i64 0, .bool (z10 == 1), .bool false, .int .i64 0, .bool false, .int .i64 0, .int .i64 0, .bool false]) (by simp [results, Tryd.results60, go_sem, o0, o1, o2, o3, o4, o5, o6, o7, o8, o9, o10, o11, o12, o13]) rfl ⟨by rw [HE.out], (((((((((((((((((FU.setCell hwx3 _).setCell hwx3 _).setCell hwx3 _).setCell hwx2 _).setCell hwx2 _).setCell hwx2 _).setCell hwx2 _).setCell hwx2 _).setCell hwx2 _).setCell hwx2 _).setCell hwx2 _).setCell hwx2 _).setCell hwx2 _).setCell hwx2 _).setCell hwx2 _).setCell hwx2 _).setCell hwx2 _)⟩
set_option maxHeartbeats 4000000 in
set_option maxRecDepth 100000 in
theorem parse_3 (A : Option Addr) (c : Nat) (xs : List Int) (w : World) (h : BS w A c xs) (hk : num (xs.take 1) = 3) (hl : xs.length = 13) : Calls Tryd.prog 60 #[.slice A 13 c] w (ParseOf xs w) := by
  obtain ⟨b, off, rfl, hb, _⟩ := h.at_ (k := 0) (by omega)
  have hc : 13 ≤ c := by have := h.le; omega
  have hz0 : xs.getD 0 0 = 3 := by have := num_one (xs := xs) (i := 0) (by omega); rw [List.drop_zero] at this; rw [← this]; exact hk
  obtain ⟨y1, hy1⟩ : ∃ y, num ((xs.drop 1).take 8) = y := ⟨_, rfl⟩
  have by1 := num_bd 8 ((xs.drop 1).take 8) (by rw [List.length_take, List.length_drop]; omega) ((h.bytes.drop _).take _)
  rw [hy1] at by1
  simp only [Int.reducePow] at by1
  obtain ⟨y9, hy9⟩ : ∃ y, num ((xs.drop 9).take 4) = y := ⟨_, rfl⟩
  have by9 := num_bd 4 ((xs.drop 9).take 4) (by rw [List.length_take, List.length_drop]; omega) ((h.bytes.drop _).take _)
  rw [hy9] at by9
  simp only [Int.reducePow] at by9
  have q9 : y9 % 4294967296 = y9 := by omega
  have HE : Hid ((optL (parseV xs)).toArray = #[.int .i64 3, .int .u64 0, .int .u64 y1, .int .u32 0, .int .u32 y9, .int .i64 0, .int .i64 0, .bool false, .bool false, .int .i64 0, .bool false, .int .i64 0, .int .i64 0, .bool false]) := Lib.hid (by
    unfold parseV
    rw [hk]
    simp only [fieldsOf, parseF, List.drop_drop, Nat.reduceAdd, hy1, hy9]
    simp [optL, upd, kindV, setV, fk, q9]
    try (repeat' apply And.intro)
    all_goals rfl)
  have S1 : ∀ w, (Instr.sliceAt 24 (.slice (some ⟨b, off, none⟩) 13 c) (some (.int .i64 1)) (some (.int .i64 9)) none).run Tryd.prog w = .ok (.slice (some ⟨b, off + 1, none⟩) 8 (c - 1)) w := fun w => run_mid b off 13 c 1 9 (by omega) (by omega) hc (by omega) w
  have S9 : ∀ w, (Instr.sliceAt 24 (.slice (some ⟨b, off, none⟩) 13 c) (some (.int .i64 9)) (some (.int .i64 13)) none).run Tryd.prog w = .ok (.slice (some ⟨b, off + 9, none⟩) 4 (c - 9)) w := fun w => run_mid b off 13 c 9 13 (by omega) (by omega) hc (by omega) w
  have HB := Lib.hid h; clear h
  have HY := Lib.hid hk; clear hk
  have ca : ∀ o, (w.alloc o).cell? ⟨b, off, none⟩ = some (.int .u8 3) := fun o => by rw [← hz0]; exact (HB.out.fine ((Fine.refl w).alloc o)).cellAt 0 (by omega)
  have hbw : b ≠ w.heap.size := by omega
  have hbw1 : b ≠ w.heap.size + 1 := by omega
  go_enter Tryd.func60, Tryd.ntmps60
  go_wp2_with fail
  have B3 : Blk ((w.alloc (.cells #[.int .i64 0, .int .u64 0, .int .u64 0, .int .u32 0, .int .u32 0, .int .i64 0, .int .i64 0, .bool false, .bool false, .int .i64 0, .bool false, .int .i64 0, .int .i64 0, .bool false] 69)).alloc (.cells #[.int .i64 3, .int .u64 0, .int .u64 0, .int .u32 0, .int .u32 0, .int .i64 0, .int .i64 0, .bool false, .bool false, .int .i64 0, .bool false, .int .i64 0, .int .i64 0, .bool false] 69)) (w.heap.size + 1) 69 #[.int .i64 3, .int .u64 0, .int .u64 0, .int .u32 0, .int .u32 0, .int .i64 0, .int .i64 0, .bool false, .bool false, .int .i64 0, .bool false, .int .i64 0, .int .i64 0, .bool false] := (Blk.newAt (w := (w.alloc (.cells #[.int .i64 0, .int .u64 0, .int .u64 0, .int .u32 0, .int .u32 0, .int .i64 0, .int .i64 0, .bool false, .bool false, .int .i64 0, .bool false, .int .i64 0, .int .i64 0, .bool false] 69))) (g := w.heap.size + 1) (t := 69) (cs := #[.int .i64 3, .int .u64 0, .int .u64 0, .int .u32 0, .int .u32 0, .int .i64 0, .int .i64 0, .bool false, .bool false, .int .i64 0, .bool false, .int .i64 0, .int .i64 0, .bool false]) (by simp))
  have B2 : Blk ((w.alloc (.cells #[.int .i64 0, .int .u64 0, .int .u64 0, .int .u32 0, .int .u32 0, .int .i64 0, .int .i64 0, .bool false, .bool false, .int .i64 0, .bool false, .int .i64 0, .int .i64 0, .bool false] 69)).alloc (.cells #[.int .i64 3, .int .u64 0, .int .u64 0, .int .u32 0, .int .u32 0, .int .i64 0, .int .i64 0, .bool false, .bool false, .int .i64 0, .bool false, .int .i64 0, .int .i64 0, .bool false] 69)) w.heap.size 69 #[.int .i64 0, .int .u64 0, .int .u64 0, .int .u32 0, .int .u32 0, .int .i64 0, .int .i64 0, .bool false, .bool false, .int .i64 0, .bool false, .int .i64 0, .int .i64 0, .bool false] := ((Blk.new w 69 #[.int .i64 0, .int .u64 0, .int .u64 0, .int .u32 0, .int .u32 0, .int .i64 0, .int .i64 0, .bool false, .bool false, .int .i64 0, .bool false, .int .i64 0, .int .i64 0, .bool false]).alloc (.cells #[.int .i64 3, .int .u64 0, .int .u64 0, .int .u32 0, .int .u32 0, .int .i64 0, .int .i64 0, .bool false, .bool false, .int .i64 0, .bool false, .int .i64 0, .int .i64 0, .bool false] 69))
  have F0 : Fine w ((w.alloc (.cells #[.int .i64 0, .int .u64 0, .int .u64 0, .int .u32 0, .int .u32 0, .int .i64 0, .int .i64 0, .bool false, .bool false, .int .i64 0, .bool false, .int .i64 0, .int .i64 0, .bool false] 69)).alloc (.cells #[.int .i64 3, .int .u64 0, .int .u64 0, .int .u32 0, .int .u32 0, .int .i64 0, .int .i64 0, .bool false, .bool false, .int .i64 0, .bool false, .int .i64 0, .int .i64 0, .bool false] 69)) := (((Fine.refl w).alloc _).alloc _)
  generalize ((w.alloc (.cells #[.int .i64 0, .int .u64 0, .int .u64 0, .int .u32 0, .int .u32 0, .int .i64 0, .int .i64 0, .bool false, .bool false, .int .i64 0, .bool false, .int .i64 0, .int .i64 0, .bool false] 69)).alloc (.cells #[.int .i64 3, .int .u64 0, .int .u64 0, .int .u32 0, .int .u32 0, .int .i64 0, .int .i64 0, .bool false, .bool false, .int .i64 0, .bool false, .int .i64 0, .int .i64 0, .bool false] 69)) = w0 at B3 B2 F0 ⊢
  obtain ⟨x2, hx2⟩ : ∃ x2, w.heap.size = x2 := ⟨_, rfl⟩
  obtain ⟨x3, hx3⟩ : ∃ x3, w.heap.size + 1 = x3 := ⟨_, rfl⟩
  rw [hx3] at B3 ⊢
  rw [hx2] at B2 ⊢
  have hwx2 : w.heap.size ≤ x2 := by omega
  have hwx3 : w.heap.size ≤ x3 := by omega
  have hx23 : x2 ≠ x3 := by omega
  have hbx3 : b ≠ x3 := by omega
  have hbx2 : b ≠ x2 := by omega
  clear hbw hbw1 hx2 hx3 ca
  have HB0 := Lib.hid (HB.out.fine F0)
  refine (number_n (some ⟨b, off + 1, none⟩) 8 (c - 1) ((xs.drop 1).take 8) w0 (HB0.out.mid 1 8 (by omega)) (by rw [List.length_take, List.length_drop]; omega) (by rw [List.length_take, List.length_drop]; omega)).mono ?_
  rintro x u0 ⟨rfl, g0⟩
  rw [hy1]
  have D3 := Lib.hid (B3.fine g0)
  have D2 := Lib.hid (B2.fine g0)
  have HU := Lib.hid (HB0.out.fine g0)
  have FU := F0.trans g0
  clear B3 B2 F0 g0 HB0
  have p2 : u0.cell? ⟨x3, 2, none⟩ = some (.int .u64 0) := D3.out.cell 2
  have r_2 : u0.frozen? ⟨x3, 2, none⟩ = false := D3.out.frozen 2
  go_wp2_with fail
  have B3 : Blk (u0.setCell ⟨x3, 2, none⟩ (.int .u64 y1)) x3 69 #[.int .i64 3, .int .u64 0, .int .u64 y1, .int .u32 0, .int .u32 0, .int .i64 0, .int .i64 0, .bool false, .bool false, .int .i64 0, .bool false, .int .i64 0, .int .i64 0, .bool false] := (D3.out.set_ 2 (.int .u64 y1)).cast (by simp)
  have B2 : Blk (u0.setCell ⟨x3, 2, none⟩ (.int .u64 y1)) x2 69 #[.int .i64 0, .int .u64 0, .int .u64 0, .int .u32 0, .int .u32 0, .int .i64 0, .int .i64 0, .bool false, .bool false, .int .i64 0, .bool false, .int .i64 0, .int .i64 0, .bool false] := (D2.out.far (p := ⟨x3, 2, none⟩) hx23 (.int .u64 y1))
  have F0 : Fine w (u0.setCell ⟨x3, 2, none⟩ (.int .u64 y1)) := (FU.setCell (p := ⟨x3, 2, none⟩) hwx3 (.int .u64 y1))
  have HB1 := Lib.hid (HU.out.keptTo hbx3 (show Kept (fun k => k = x3) u0 (u0.setCell ⟨x3, 2, none⟩ (.int .u64 y1)) from (Kept.refl _ _).setB4))
  clear HU FU D3 D2
  clear p2 r_2
  generalize (u0.setCell ⟨x3, 2, none⟩ (.int .u64 y1)) = w1 at B3 B2 F0 HB1 ⊢
  refine (number_n (some ⟨b, off + 9, none⟩) 4 (c - 9) ((xs.drop 9).take 4) w1 (HB1.out.mid 9 4 (by omega)) (by rw [List.length_take, List.length_drop]; omega) (by rw [List.length_take, List.length_drop]; omega)).mono ?_
  rintro x u1 ⟨rfl, g1⟩
  rw [hy9]
  have D3 := Lib.hid (B3.fine g1)
  have D2 := Lib.hid (B2.fine g1)
  have HU := Lib.hid (HB1.out.fine g1)
  have FU := F0.trans g1
  clear B3 B2 F0 g1 HB1
  have p0 : u1.cell? ⟨x3, 0, none⟩ = some (.int .i64 3) := D3.out.cell 0
  have o0 : u1.cell? ⟨x2, 0, none⟩ = some (.int .i64 0) := D2.out.cell 0
  have s0 : u1.frozen? ⟨x2, 0, none⟩ = false := D2.out.frozen 0
  have p1 : u1.cell? ⟨x3, 1, none⟩ = some (.int .u64 0) := D3.out.cell 1
  have o1 : u1.cell? ⟨x2, 1, none⟩ = some (.int .u64 0) := D2.out.cell 1
  have s1 : u1.frozen? ⟨x2, 1, none⟩ = false := D2.out.frozen 1
  have p2 : u1.cell? ⟨x3, 2, none⟩ = some (.int .u64 y1) := D3.out.cell 2
  have o2 : u1.cell? ⟨x2, 2, none⟩ = some (.int .u64 0) := D2.out.cell 2
  have s2 : u1.frozen? ⟨x2, 2, none⟩ = false := D2.out.frozen 2
  have p3 : u1.cell? ⟨x3, 3, none⟩ = some (.int .u32 0) := D3.out.cell 3
  have o3 : u1.cell? ⟨x2, 3, none⟩ = some (.int .u32 0) := D2.out.cell 3
  have s3 : u1.frozen? ⟨x2, 3, none⟩ = false := D2.out.frozen 3
  have p4 : u1.cell? ⟨x3, 4, none⟩ = some (.int .u32 0) := D3.out.cell 4
  have r_4 : u1.frozen? ⟨x3, 4, none⟩ = false := D3.out.frozen 4
  have o4 : u1.cell? ⟨x2, 4, none⟩ = some (.int .u32 0) := D2.out.cell 4
  have s4 : u1.frozen? ⟨x2, 4, none⟩ = false := D2.out.frozen 4
  have p5 : u1.cell? ⟨x3, 5, none⟩ = some (.int .i64 0) := D3.out.cell 5
  have o5 : u1.cell? ⟨x2, 5, none⟩ = some (.int .i64 0) := D2.out.cell 5
  have s5 : u1.frozen? ⟨x2, 5, none⟩ = false := D2.out.frozen 5
  have p6 : u1.cell? ⟨x3, 6, none⟩ = some (.int .i64 0) := D3.out.cell 6
  have o6 : u1.cell? ⟨x2, 6, none⟩ = some (.int .i64 0) := D2.out.cell 6
  have s6 : u1.frozen? ⟨x2, 6, none⟩ = false := D2.out.frozen 6
  have p7 : u1.cell? ⟨x3, 7, none⟩ = some (.bool false) := D3.out.cell 7
  have o7 : u1.cell? ⟨x2, 7, none⟩ = some (.bool false) := D2.out.cell 7
  have s7 : u1.frozen? ⟨x2, 7, none⟩ = false := D2.out.frozen 7
  have p8 : u1.cell? ⟨x3, 8, none⟩ = some (.bool false) := D3.out.cell 8
  have o8 : u1.cell? ⟨x2, 8, none⟩ = some (.bool false) := D2.out.cell 8
  have s8 : u1.frozen? ⟨x2, 8, none⟩ = false := D2.out.frozen 8
  have p9 : u1.cell? ⟨x3, 9, none⟩ = some (.int .i64 0) := D3.out.cell 9
  have o9 : u1.cell? ⟨x2, 9, none⟩ = some (.int .i64 0) := D2.out.cell 9
  have s9 : u1.frozen? ⟨x2, 9, none⟩ = false := D2.out.frozen 9
  have p10 : u1.cell? ⟨x3, 10, none⟩ = some (.bool false) := D3.out.cell 10
  have o10 : u1.cell? ⟨x2, 10, none⟩ = some (.bool false) := D2.out.cell 10
  have s10 : u1.frozen? ⟨x2, 10, none⟩ = false := D2.out.frozen 10
  have p11 : u1.cell? ⟨x3, 11, none⟩ = some (.int .i64 0) := D3.out.cell 11
  have o11 : u1.cell? ⟨x2, 11, none⟩ = some (.int .i64 0) := D2.out.cell 11
  have s11 : u1.frozen? ⟨x2, 11, none⟩ = false := D2.out.frozen 11
  have p12 : u1.cell? ⟨x3, 12, none⟩ = some (.int .i64 0) := D3.out.cell 12
  have o12 : u1.cell? ⟨x2, 12, none⟩ = some (.int .i64 0) := D2.out.cell 12
  have s12 : u1.frozen? ⟨x2, 12, none⟩ = false := D2.out.frozen 12
  have p13 : u1.cell? ⟨x3, 13, none⟩ = some (.bool false) := D3.out.cell 13
  have o13 : u1.cell? ⟨x2, 13, none⟩ = some (.bool false) := D2.out.cell 13
  have s13 : u1.frozen? ⟨x2, 13, none⟩ = false := D2.out.frozen 13
  go_wp2_with fail
  exact bodyPost_ret (v := .agg #[.int .i64 3, .int .u64 0, .int .u64 y1, .int .u32 0, .int .u32 y9, .int .i64 0, .int .i64 0, .bool false, .bool false, .int .i64 0, .bool false, .int .i64 0, .int .i64 0, .bool false]) (by simp [results, Tryd.results60, go_sem, o0, o1, o2, o3, o4, o5, o6, o7, o8, o9, o10, o11, o12, o13]) rfl ⟨by rw [HE.out], (((((((((((((((FU.setCell hwx3 _).setCell hwx2 _).setCell hwx2 _).setCell hwx2 _).setCell hwx2 _).setCell hwx2 _).setCell hwx2 _).setCell hwx2 _).setCell hwx2 _).setCell hwx2 _).setCell hwx2 _).setCell hwx2 _).setCell hwx2 _).setCell hwx2 _).setCell hwx2 _)⟩
set_option maxHeartbeats 4000000 in
set_option maxRecDepth 100000 in
theorem parse_4 (A : Option Addr) (c : Nat) (xs : List Int) (w : World) (h : BS w A c xs) (hk : num (xs.take 1) = 4) (hl : xs.length = 9) : Calls Tryd.prog 60 #[.slice A 9 c] w (ParseOf xs w) := by
  obtain ⟨b, off, rfl, hb, _⟩ := h.at_ (k := 0) (by omega)
  have hc : 9 ≤ c := by have := h.le; omega
  have hz0 : xs.getD 0 0 = 4 := by have := num_one (xs := xs) (i := 0) (by omega); rw [List.drop_zero] at this; rw [← this]; exact hk
  obtain ⟨y1, hy1⟩ : ∃ y, num ((xs.drop 1).take 8) = y := ⟨_, rfl⟩
  have by1 := num_bd 8 ((xs.drop 1).take 8) (by rw [List.length_take, List.length_drop]; omega) ((h.bytes.drop _).take _)
  rw [hy1] at by1
  simp only [Int.reducePow] at by1
  have HE : Hid ((optL (parseV xs)).toArray = #[.int .i64 4, .int .u64 0, .int .u64 y1, .int .u32 0, .int .u32 0, .int .i64 0, .int .i64 0, .bool false, .bool false, .int .i64 0, .bool false, .int .i64 0, .int .i64 0, .bool false]) := Lib.hid (by
    unfold parseV
    rw [hk]
    simp only [fieldsOf, parseF, List.drop_drop, Nat.reduceAdd, hy1]
    simp [optL, upd, kindV, setV, fk]
    try (repeat' apply And.intro)
    all_goals rfl)
  have HB := Lib.hid h; clear h
  have HY := Lib.hid hk; clear hk
  have ca : ∀ o, (w.alloc o).cell? ⟨b, off, none⟩ = some (.int .u8 4) := fun o => by rw [← hz0]; exact (HB.out.fine ((Fine.refl w).alloc o)).cellAt 0 (by omega)
  have hbw : b ≠ w.heap.size := by omega
  have hbw1 : b ≠ w.heap.size + 1 := by omega
  go_enter Tryd.func60, Tryd.ntmps60
  go_wp2_with fail
  have B3 : Blk ((w.alloc (.cells #[.int .i64 0, .int .u64 0, .int .u64 0, .int .u32 0, .int .u32 0, .int .i64 0, .int .i64 0, .bool false, .bool false, .int .i64 0, .bool false, .int .i64 0, .int .i64 0, .bool false] 69)).alloc (.cells #[.int .i64 4, .int .u64 0, .int .u64 0, .int .u32 0, .int .u32 0, .int .i64 0, .int .i64 0, .bool false, .bool false, .int .i64 0, .bool false, .int .i64 0, .int .i64 0, .bool false] 69)) (w.heap.size + 1) 69 #[.int .i64 4, .int .u64 0, .int .u64 0, .int .u32 0, .int .u32 0, .int .i64 0, .int .i64 0, .bool false, .bool false, .int .i64 0, .bool false, .int .i64 0, .int .i64 0, .bool false] := (Blk.newAt (w := (w.alloc (.cells #[.int .i64 0, .int .u64 0, .int .u64 0, .int .u32 0, .int .u32 0, .int .i64 0, .int .i64 0, .bool false, .bool false, .int .i64 0, .bool false, .int .i64 0, .int .i64 0, .bool false] 69))) (g := w.heap.size + 1) (t := 69) (cs := #[.int .i64 4, .int .u64 0, .int .u64 0, .int .u32 0, .int .u32 0, .int .i64 0, .int .i64 0, .bool false, .bool false, .int .i64 0, .bool false, .int .i64 0, .int .i64 0, .bool false]) (by simp))
  have B2 : Blk ((w.alloc (.cells #[.int .i64 0, .int .u64 0, .int .u64 0, .int .u32 0, .int .u32 0, .int .i64 0, .int .i64 0, .bool false, .bool false, .int .i64 0, .bool false, .int .i64 0, .int .i64 0, .bool false] 69)).alloc (.cells #[.int .i64 4, .int .u64 0, .int .u64 0, .int .u32 0, .int .u32 0, .int .i64 0, .int .i64 0, .bool false, .bool false, .int .i64 0, .bool false, .int .i64 0, .int .i64 0, .bool false] 69)) w.heap.size 69 #[.int .i64 0, .int .u64 0, .int .u64 0, .int .u32 0, .int .u32 0, .int .i64 0, .int .i64 0, .bool false, .bool false, .int .i64 0, .bool false, .int .i64 0, .int .i64 0, .bool false] := ((Blk.new w 69 #[.int .i64 0, .int .u64 0, .int .u64 0, .int .u32 0, .int .u32 0, .int .i64 0, .int .i64 0, .bool false, .bool false, .int .i64 0, .bool false, .int .i64 0, .int .i64 0, .bool false]).alloc (.cells #[.int .i64 4, .int .u64 0, .int .u64 0, .int .u32 0, .int .u32 0, .int .i64 0, .int .i64 0, .bool false, .bool false, .int .i64 0, .bool false, .int .i64 0, .int .i64 0, .bool false] 69))
  have F0 : Fine w ((w.alloc (.cells #[.int .i64 0, .int .u64 0, .int .u64 0, .int .u32 0, .int .u32 0, .int .i64 0, .int .i64 0, .bool false, .bool false, .int .i64 0, .bool false, .int .i64 0, .int .i64 0, .bool false] 69)).alloc (.cells #[.int .i64 4, .int .u64 0, .int .u64 0, .int .u32 0, .int .u32 0, .int .i64 0, .int .i64 0, .bool false, .bool false, .int .i64 0, .bool false, .int .i64 0, .int .i64 0, .bool false] 69)) := (((Fine.refl w).alloc _).alloc _)
  generalize ((w.alloc (.cells #[.int .i64 0, .int .u64 0, .int .u64 0, .int .u32 0, .int .u32 0, .int .i64 0, .int .i64 0, .bool false, .bool false, .int .i64 0, .bool false, .int .i64 0, .int .i64 0, .bool false] 69)).alloc (.cells #[.int .i64 4, .int .u64 0, .int .u64 0, .int .u32 0, .int .u32 0, .int .i64 0, .int .i64 0, .bool false, .bool false, .int .i64 0, .bool false, .int .i64 0, .int .i64 0, .bool false] 69)) = w0 at B3 B2 F0 ⊢
  obtain ⟨x2, hx2⟩ : ∃ x2, w.heap.size = x2 := ⟨_, rfl⟩
  obtain ⟨x3, hx3⟩ : ∃ x3, w.heap.size + 1 = x3 := ⟨_, rfl⟩
  rw [hx3] at B3 ⊢
  rw [hx2] at B2 ⊢
  have hwx2 : w.heap.size ≤ x2 := by omega
  have hwx3 : w.heap.size ≤ x3 := by omega
  have hx23 : x2 ≠ x3 := by omega
  have hbx3 : b ≠ x3 := by omega
  have hbx2 : b ≠ x2 := by omega
  clear hbw hbw1 hx2 hx3 ca
  have HB0 := Lib.hid (HB.out.fine F0)
  refine (number_n (some ⟨b, off + 1, none⟩) 8 (c - 1) ((xs.drop 1).take 8) w0 (HB0.out.mid 1 8 (by omega)) (by rw [List.length_take, List.length_drop]; omega) (by rw [List.length_take, List.length_drop]; omega)).mono ?_
  rintro x u0 ⟨rfl, g0⟩
  rw [hy1]
  have D3 := Lib.hid (B3.fine g0)
  have D2 := Lib.hid (B2.fine g0)
  have HU := Lib.hid (HB0.out.fine g0)
  have FU := F0.trans g0
  clear B3 B2 F0 g0 HB0
  have p0 : u0.cell? ⟨x3, 0, none⟩ = some (.int .i64 4) := D3.out.cell 0
  have o0 : u0.cell? ⟨x2, 0, none⟩ = some (.int .i64 0) := D2.out.cell 0
  have s0 : u0.frozen? ⟨x2, 0, none⟩ = false := D2.out.frozen 0
  have p1 : u0.cell? ⟨x3, 1, none⟩ = some (.int .u64 0) := D3.out.cell 1
  have o1 : u0.cell? ⟨x2, 1, none⟩ = some (.int .u64 0) := D2.out.cell 1
  have s1 : u0.frozen? ⟨x2, 1, none⟩ = false := D2.out.frozen 1
  have p2 : u0.cell? ⟨x3, 2, none⟩ = some (.int .u64 0) := D3.out.cell 2
  have r_2 : u0.frozen? ⟨x3, 2, none⟩ = false := D3.out.frozen 2
  have o2 : u0.cell? ⟨x2, 2, none⟩ = some (.int .u64 0) := D2.out.cell 2
  have s2 : u0.frozen? ⟨x2, 2, none⟩ = false := D2.out.frozen 2
  have p3 : u0.cell? ⟨x3, 3, none⟩ = some (.int .u32 0) := D3.out.cell 3
  have o3 : u0.cell? ⟨x2, 3, none⟩ = some (.int .u32 0) := D2.out.cell 3
  have s3 : u0.frozen? ⟨x2, 3, none⟩ = false := D2.out.frozen 3
  have p4 : u0.cell? ⟨x3, 4, none⟩ = some (.int .u32 0) := D3.out.cell 4
  have o4 : u0.cell? ⟨x2, 4, none⟩ = some (.int .u32 0) := D2.out.cell 4
  have s4 : u0.frozen? ⟨x2, 4, none⟩ = false := D2.out.frozen 4
  have p5 : u0.cell? ⟨x3, 5, none⟩ = some (.int .i64 0) := D3.out.cell 5
  have o5 : u0.cell? ⟨x2, 5, none⟩ = some (.int .i64 0) := D2.out.cell 5
  have s5 : u0.frozen? ⟨x2, 5, none⟩ = false := D2.out.frozen 5
  have p6 : u0.cell? ⟨x3, 6, none⟩ = some (.int .i64 0) := D3.out.cell 6
  have o6 : u0.cell? ⟨x2, 6, none⟩ = some (.int .i64 0) := D2.out.cell 6
  have s6 : u0.frozen? ⟨x2, 6, none⟩ = false := D2.out.frozen 6
  have p7 : u0.cell? ⟨x3, 7, none⟩ = some (.bool false) := D3.out.cell 7
  have o7 : u0.cell? ⟨x2, 7, none⟩ = some (.bool false) := D2.out.cell 7
  have s7 : u0.frozen? ⟨x2, 7, none⟩ = false := D2.out.frozen 7
  have p8 : u0.cell? ⟨x3, 8, none⟩ = some (.bool false) := D3.out.cell 8
  have o8 : u0.cell? ⟨x2, 8, none⟩ = some (.bool false) := D2.out.cell 8
  have s8 : u0.frozen? ⟨x2, 8, none⟩ = false := D2.out.frozen 8
  have p9 : u0.cell? ⟨x3, 9, none⟩ = some (.int .i64 0) := D3.out.cell 9
  have o9 : u0.cell? ⟨x2, 9, none⟩ = some (.int .i64 0) := D2.out.cell 9
  have s9 : u0.frozen? ⟨x2, 9, none⟩ = false := D2.out.frozen 9
  have p10 : u0.cell? ⟨x3, 10, none⟩ = some (.bool false) := D3.out.cell 10
  have o10 : u0.cell? ⟨x2, 10, none⟩ = some (.bool false) := D2.out.cell 10
  have s10 : u0.frozen? ⟨x2, 10, none⟩ = false := D2.out.frozen 10
  have p11 : u0.cell? ⟨x3, 11, none⟩ = some (.int .i64 0) := D3.out.cell 11
  have o11 : u0.cell? ⟨x2, 11, none⟩ = some (.int .i64 0) := D2.out.cell 11
  have s11 : u0.frozen? ⟨x2, 11, none⟩ = false := D2.out.frozen 11
  have p12 : u0.cell? ⟨x3, 12, none⟩ = some (.int .i64 0) := D3.out.cell 12
  have o12 : u0.cell? ⟨x2, 12, none⟩ = some (.int .i64 0) := D2.out.cell 12
  have s12 : u0.frozen? ⟨x2, 12, none⟩ = false := D2.out.frozen 12
  have p13 : u0.cell? ⟨x3, 13, none⟩ = some (.bool false) := D3.out.cell 13
  have o13 : u0.cell? ⟨x2, 13, none⟩ = some (.bool false) := D2.out.cell 13
  have s13 : u0.frozen? ⟨x2, 13, none⟩ = false := D2.out.frozen 13
  go_wp2_with fail
  exact bodyPost_ret (v := .agg #[.int .i64 4, .int .u64 0, .int .u64 y1, .int .u32 0, .int .u32 0, .int .i64 0, .int .i64 0, .bool false, .bool false, .int .i64 0, .bool false, .int .i64 0, .int .i64 0, .bool false]) (by simp [results, Tryd.results60, go_sem, o0, o1, o2, o3, o4, o5, o6, o7, o8, o9, o10, o11, o12, o13]) rfl ⟨by rw [HE.out], (((((((((((((((FU.setCell hwx3 _).setCell hwx2 _).setCell hwx2 _).setCell hwx2 _).setCell hwx2 _).setCell hwx2 _).setCell hwx2 _).setCell hwx2 _).setCell hwx2 _).setCell hwx2 _).setCell hwx2 _).setCell hwx2 _).setCell hwx2 _).setCell hwx2 _).setCell hwx2 _)⟩
set_option maxHeartbeats 4000000 in
set_option maxRecDepth 100000 in
theorem parse_5 (A : Option Addr) (c : Nat) (xs : List Int) (w : World) (h : BS w A c xs) (hk : num (xs.take 1) = 5) (hl : xs.length = 13) : Calls Tryd.prog 60 #[.slice A 13 c] w (ParseOf xs w) := by
  obtain ⟨b, off, rfl, hb, _⟩ := h.at_ (k := 0) (by omega)
  have hc : 13 ≤ c := by have := h.le; omega
  have hz0 : xs.getD 0 0 = 5 := by have := num_one (xs := xs) (i := 0) (by omega); rw [List.drop_zero] at this; rw [← this]; exact hk
  obtain ⟨y2, hy2⟩ : ∃ y, num ((xs.drop 2).take 4) = y := ⟨_, rfl⟩
  have by2 := num_bd 4 ((xs.drop 2).take 4) (by rw [List.length_take, List.length_drop]; omega) ((h.bytes.drop _).take _)
  rw [hy2] at by2
  simp only [Int.reducePow] at by2
  obtain ⟨y7, hy7⟩ : ∃ y, num ((xs.drop 7).take 4) = y := ⟨_, rfl⟩
  have by7 := num_bd 4 ((xs.drop 7).take 4) (by rw [List.length_take, List.length_drop]; omega) ((h.bytes.drop _).take _)
  rw [hy7] at by7
  simp only [Int.reducePow] at by7
  obtain ⟨z1, hz1⟩ : ∃ z, xs.getD 1 0 = z := ⟨_, rfl⟩
  have bz1 := h.bytes.getD 1
  rw [hz1] at bz1
  have hy1 : num ((xs.drop 1).take 1) = z1 := by rw [num_one (by omega), hz1]
  obtain ⟨z6, hz6⟩ : ∃ z, xs.getD 6 0 = z := ⟨_, rfl⟩
  have bz6 := h.bytes.getD 6
  rw [hz6] at bz6
  have hy6 : num ((xs.drop 6).take 1) = z6 := by rw [num_one (by omega), hz6]
  obtain ⟨z11, hz11⟩ : ∃ z, xs.getD 11 0 = z := ⟨_, rfl⟩
  have bz11 := h.bytes.getD 11
  rw [hz11] at bz11
  have hy11 : num ((xs.drop 11).take 1) = z11 := by rw [num_one (by omega), hz11]
  obtain ⟨z12, hz12⟩ : ∃ z, xs.getD 12 0 = z := ⟨_, rfl⟩
  have bz12 := h.bytes.getD 12
  rw [hz12] at bz12
  have hy12 : num ((xs.drop 12).take 1) = z12 := by rw [num_one (by omega), hz12]
  have q2 : wrap64 y2 = y2 := by unfold wrap64; omega
  have r2 : IntKind.i64.wrap y2 = y2 := by rw [IntKind.wrap_i64]; omega
  have q7 : wrap64 y7 = y7 := by unfold wrap64; omega
  have r7 : IntKind.i64.wrap y7 = y7 := by rw [IntKind.wrap_i64]; omega
  have q11 : wrap64 z11 = z11 := by unfold wrap64; omega
  have r11 : IntKind.i64.wrap z11 = z11 := by rw [IntKind.wrap_i64]; omega
  have HE : Hid ((optL (parseV xs)).toArray = #[.int .i64 5, .int .u64 0, .int .u64 0, .int .u32 0, .int .u32 0, .int .i64 0, .int .i64 0, .bool false, .bool (z1 == 1), .int .i64 y2, .bool (z6 == 1), .int .i64 y7, .int .i64 z11, .bool (z12 == 1)]) := Lib.hid (by
    unfold parseV
    rw [hk]
    simp only [fieldsOf, parseF, List.drop_drop, Nat.reduceAdd, hy1, hy2, hy6, hy7, hy11, hy12]
    simp [optL, upd, kindV, setV, fk, q2, q7, q11]
    try (repeat' apply And.intro)
    all_goals rfl)
  clear hy1
  clear hy6
  clear hy11
  clear hy12
  have S2 : ∀ w, (Instr.sliceAt 24 (.slice (some ⟨b, off, none⟩) 13 c) (some (.int .i64 2)) (some (.int .i64 6)) none).run Tryd.prog w = .ok (.slice (some ⟨b, off + 2, none⟩) 4 (c - 2)) w := fun w => run_mid b off 13 c 2 6 (by omega) (by omega) hc (by omega) w
  have S7 : ∀ w, (Instr.sliceAt 24 (.slice (some ⟨b, off, none⟩) 13 c) (some (.int .i64 7)) (some (.int .i64 11)) none).run Tryd.prog w = .ok (.slice (some ⟨b, off + 7, none⟩) 4 (c - 7)) w := fun w => run_mid b off 13 c 7 11 (by omega) (by omega) hc (by omega) w
  have HB := Lib.hid h; clear h
  have HY := Lib.hid hk; clear hk
  have ca : ∀ o, (w.alloc o).cell? ⟨b, off, none⟩ = some (.int .u8 5) := fun o => by rw [← hz0]; exact (HB.out.fine ((Fine.refl w).alloc o)).cellAt 0 (by omega)
  have cb1 : ∀ o o', ((w.alloc o).alloc o').cell? ⟨b, off + 1, none⟩ = some (.int .u8 z1) := fun o o' => by rw [← hz1]; exact (HB.out.fine (((Fine.refl w).alloc o).alloc o')).cellAt 1 (by omega)
  have hbw : b ≠ w.heap.size := by omega
  have hbw1 : b ≠ w.heap.size + 1 := by omega
  go_enter Tryd.func60, Tryd.ntmps60
  go_wp2_with fail
  -- FIRST
  have B3 : Blk ((w.alloc (.cells #[.int .i64 0, .int .u64 0, .int .u64 0, .int .u32 0, .int .u32 0, .int .i64 0, .int .i64 0, .bool false, .bool false, .int .i64 0, .bool false, .int .i64 0, .int .i64 0, .bool false] 69)).alloc (.cells #[.int .i64 5, .int .u64 0, .int .u64 0, .int .u32 0, .int .u32 0, .int .i64 0, .int .i64 0, .bool false, .bool (z1 == 1), .int .i64 0, .bool false, .int .i64 0, .int .i64 0, .bool false] 69)) (w.heap.size + 1) 69 #[.int .i64 5, .int .u64 0, .int .u64 0, .int .u32 0, .int .u32 0, .int .i64 0, .int .i64 0, .bool false, .bool (z1 == 1), .int .i64 0, .bool false, .int .i64 0, .int .i64 0, .bool false] := (Blk.newAt (w := (w.alloc (.cells #[.int .i64 0, .int .u64 0, .int .u64 0, .int .u32 0, .int .u32 0, .int .i64 0, .int .i64 0, .bool false, .bool false, .int .i64 0, .bool false, .int .i64 0, .int .i64 0, .bool false] 69))) (g := w.heap.size + 1) (t := 69) (cs := #[.int .i64 5, .int .u64 0, .int .u64 0, .int .u32 0, .int .u32 0, .int .i64 0, .int .i64 0, .bool false, .bool (z1 == 1), .int .i64 0, .bool false, .int .i64 0, .int .i64 0, .bool false]) (by simp))
  have B2 : Blk ((w.alloc (.cells #[.int .i64 0, .int .u64 0, .int .u64 0, .int .u32 0, .int .u32 0, .int .i64 0, .int .i64 0, .bool false, .bool false, .int .i64 0, .bool false, .int .i64 0, .int .i64 0, .bool false] 69)).alloc (.cells #[.int .i64 5, .int .u64 0, .int .u64 0, .int .u32 0, .int .u32 0, .int .i64 0, .int .i64 0, .bool false, .bool (z1 == 1), .int .i64 0, .bool false, .int .i64 0, .int .i64 0, .bool false] 69)) w.heap.size 69 #[.int .i64 0, .int .u64 0, .int .u64 0, .int .u32 0, .int .u32 0, .int .i64 0, .int .i64 0, .bool false, .bool false, .int .i64 0, .bool false, .int .i64 0, .int .i64 0, .bool false] := ((Blk.new w 69 #[.int .i64 0, .int .u64 0, .int .u64 0, .int .u32 0, .int .u32 0, .int .i64 0, .int .i64 0, .bool false, .bool false, .int .i64 0, .bool false, .int .i64 0, .int .i64 0, .bool false]).alloc (.cells #[.int .i64 5, .int .u64 0, .int .u64 0, .int .u32 0, .int .u32 0, .int .i64 0, .int .i64 0, .bool false, .bool (z1 == 1), .int .i64 0, .bool false, .int .i64 0, .int .i64 0, .bool false] 69))
  have F0 : Fine w ((w.alloc (.cells #[.int .i64 0, .int .u64 0, .int .u64 0, .int .u32 0, .int .u32 0, .int .i64 0, .int .i64 0, .bool false, .bool false, .int .i64 0, .bool false, .int .i64 0, .int .i64 0, .bool false] 69)).alloc (.cells #[.int .i64 5, .int .u64 0, .int .u64 0, .int .u32 0, .int .u32 0, .int .i64 0, .int .i64 0, .bool false, .bool (z1 == 1), .int .i64 0, .bool false, .int .i64 0, .int .i64 0, .bool false] 69)) := (((Fine.refl w).alloc _).alloc _)
  generalize ((w.alloc (.cells #[.int .i64 0, .int .u64 0, .int .u64 0, .int .u32 0, .int .u32 0, .int .i64 0, .int .i64 0, .bool false, .bool false, .int .i64 0, .bool false, .int .i64 0, .int .i64 0, .bool false] 69)).alloc (.cells #[.int .i64 5, .int .u64 0, .int .u64 0, .int .u32 0, .int .u32 0, .int .i64 0, .int .i64 0, .bool false, .bool (z1 == 1), .int .i64 0, .bool false, .int .i64 0, .int .i64 0, .bool false] 69)) = w0 at B3 B2 F0 ⊢
  obtain ⟨x2, hx2⟩ : ∃ x2, w.heap.size = x2 := ⟨_, rfl⟩
  obtain ⟨x3, hx3⟩ : ∃ x3, w.heap.size + 1 = x3 := ⟨_, rfl⟩
  rw [hx3] at B3 ⊢
  rw [hx2] at B2 ⊢
  have hwx2 : w.heap.size ≤ x2 := by omega
  have hwx3 : w.heap.size ≤ x3 := by omega
  have hx23 : x2 ≠ x3 := by omega
  have hbx3 : b ≠ x3 := by omega
  have hbx2 : b ≠ x2 := by omega
  clear hbw hbw1 hx2 hx3 ca
  have HB0 := Lib.hid (HB.out.fine F0)
  clear cb1
  refine (number_n (some ⟨b, off + 2, none⟩) 4 (c - 2) ((xs.drop 2).take 4) w0 (HB0.out.mid 2 4 (by omega)) (by rw [List.length_take, List.length_drop]; omega) (by rw [List.length_take, List.length_drop]; omega)).mono ?_
  rintro x u0 ⟨rfl, g0⟩
  rw [hy2]
  have D3 := Lib.hid (B3.fine g0)
  have D2 := Lib.hid (B2.fine g0)
  have HU := Lib.hid (HB0.out.fine g0)
  have FU := F0.trans g0
  clear B3 B2 F0 g0 HB0
  have e6 : u0.cell? ⟨b, off + 6, none⟩ = some (.int .u8 z6) := by rw [← hz6]; exact HU.out.cellAt 6 (by omega)
  have p9 : u0.cell? ⟨x3, 9, none⟩ = some (.int .i64 0) := D3.out.cell 9
  have r_9 : u0.frozen? ⟨x3, 9, none⟩ = false := D3.out.frozen 9
  have p10 : u0.cell? ⟨x3, 10, none⟩ = some (.bool false) := D3.out.cell 10
  have r_10 : u0.frozen? ⟨x3, 10, none⟩ = false := D3.out.frozen 10
  go_wp2_with fail
  have B3 : Blk ((u0.setCell ⟨x3, 9, none⟩ (.int .i64 y2)).setCell ⟨x3, 10, none⟩ (.bool (z6 == 1))) x3 69 #[.int .i64 5, .int .u64 0, .int .u64 0, .int .u32 0, .int .u32 0, .int .i64 0, .int .i64 0, .bool false, .bool (z1 == 1), .int .i64 y2, .bool (z6 == 1), .int .i64 0, .int .i64 0, .bool false] := ((D3.out.set_ 9 (.int .i64 y2)).set_ 10 (.bool (z6 == 1))).cast (by simp)
  have B2 : Blk ((u0.setCell ⟨x3, 9, none⟩ (.int .i64 y2)).setCell ⟨x3, 10, none⟩ (.bool (z6 == 1))) x2 69 #[.int .i64 0, .int .u64 0, .int .u64 0, .int .u32 0, .int .u32 0, .int .i64 0, .int .i64 0, .bool false, .bool false, .int .i64 0, .bool false, .int .i64 0, .int .i64 0, .bool false] := ((D2.out.far (p := ⟨x3, 9, none⟩) hx23 (.int .i64 y2)).far (p := ⟨x3, 10, none⟩) hx23 (.bool (z6 == 1)))
  have F0 : Fine w ((u0.setCell ⟨x3, 9, none⟩ (.int .i64 y2)).setCell ⟨x3, 10, none⟩ (.bool (z6 == 1))) := ((FU.setCell (p := ⟨x3, 9, none⟩) hwx3 (.int .i64 y2)).setCell (p := ⟨x3, 10, none⟩) hwx3 (.bool (z6 == 1)))
  have HB1 := Lib.hid (HU.out.keptTo hbx3 (show Kept (fun k => k = x3) u0 ((u0.setCell ⟨x3, 9, none⟩ (.int .i64 y2)).setCell ⟨x3, 10, none⟩ (.bool (z6 == 1))) from ((Kept.refl _ _).setB4).setB4))
  clear HU FU D3 D2
  clear p9 r_9
  clear p10 r_10
  clear e6
  generalize ((u0.setCell ⟨x3, 9, none⟩ (.int .i64 y2)).setCell ⟨x3, 10, none⟩ (.bool (z6 == 1))) = w1 at B3 B2 F0 HB1 ⊢
  refine (number_n (some ⟨b, off + 7, none⟩) 4 (c - 7) ((xs.drop 7).take 4) w1 (HB1.out.mid 7 4 (by omega)) (by rw [List.length_take, List.length_drop]; omega) (by rw [List.length_take, List.length_drop]; omega)).mono ?_
  rintro x u1 ⟨rfl, g1⟩
  rw [hy7]
  have D3 := Lib.hid (B3.fine g1)
  have D2 := Lib.hid (B2.fine g1)
  have HU := Lib.hid (HB1.out.fine g1)
  have FU := F0.trans g1
  clear B3 B2 F0 g1 HB1
  have e11 : u1.cell? ⟨b, off + 11, none⟩ = some (.int .u8 z11) := by rw [← hz11]; exact HU.out.cellAt 11 (by omega)
  have e12 : u1.cell? ⟨b, off + 12, none⟩ = some (.int .u8 z12) := by rw [← hz12]; exact HU.out.cellAt 12 (by omega)
  have p0 : u1.cell? ⟨x3, 0, none⟩ = some (.int .i64 5) := D3.out.cell 0
  have o0 : u1.cell? ⟨x2, 0, none⟩ = some (.int .i64 0) := D2.out.cell 0
  have s0 : u1.frozen? ⟨x2, 0, none⟩ = false := D2.out.frozen 0
  have p1 : u1.cell? ⟨x3, 1, none⟩ = some (.int .u64 0) := D3.out.cell 1
  have o1 : u1.cell? ⟨x2, 1, none⟩ = some (.int .u64 0) := D2.out.cell 1
  have s1 : u1.frozen? ⟨x2, 1, none⟩ = false := D2.out.frozen 1
  have p2 : u1.cell? ⟨x3, 2, none⟩ = some (.int .u64 0) := D3.out.cell 2
  have o2 : u1.cell? ⟨x2, 2, none⟩ = some (.int .u64 0) := D2.out.cell 2
  have s2 : u1.frozen? ⟨x2, 2, none⟩ = false := D2.out.frozen 2
  have p3 : u1.cell? ⟨x3, 3, none⟩ = some (.int .u32 0) := D3.out.cell 3
  have o3 : u1.cell? ⟨x2, 3, none⟩ = some (.int .u32 0) := D2.out.cell 3
  have s3 : u1.frozen? ⟨x2, 3, none⟩ = false := D2.out.frozen 3
  have p4 : u1.cell? ⟨x3, 4, none⟩ = some (.int .u32 0) := D3.out.cell 4
  have o4 : u1.cell? ⟨x2, 4, none⟩ = some (.int .u32 0) := D2.out.cell 4
  have s4 : u1.frozen? ⟨x2, 4, none⟩ = false := D2.out.frozen 4
  have p5 : u1.cell? ⟨x3, 5, none⟩ = some (.int .i64 0) := D3.out.cell 5
  have o5 : u1.cell? ⟨x2, 5, none⟩ = some (.int .i64 0) := D2.out.cell 5
  have s5 : u1.frozen? ⟨x2, 5, none⟩ = false := D2.out.frozen 5
  have p6 : u1.cell? ⟨x3, 6, none⟩ = some (.int .i64 0) := D3.out.cell 6
  have o6 : u1.cell? ⟨x2, 6, none⟩ = some (.int .i64 0) := D2.out.cell 6
  have s6 : u1.frozen? ⟨x2, 6, none⟩ = false := D2.out.frozen 6
  have p7 : u1.cell? ⟨x3, 7, none⟩ = some (.bool false) := D3.out.cell 7
  have o7 : u1.cell? ⟨x2, 7, none⟩ = some (.bool false) := D2.out.cell 7
  have s7 : u1.frozen? ⟨x2, 7, none⟩ = false := D2.out.frozen 7
  have p8 : u1.cell? ⟨x3, 8, none⟩ = some (.bool (z1 == 1)) := D3.out.cell 8
  have o8 : u1.cell? ⟨x2, 8, none⟩ = some (.bool false) := D2.out.cell 8
  have s8 : u1.frozen? ⟨x2, 8, none⟩ = false := D2.out.frozen 8
  have p9 : u1.cell? ⟨x3, 9, none⟩ = some (.int .i64 y2) := D3.out.cell 9
  have o9 : u1.cell? ⟨x2, 9, none⟩ = some (.int .i64 0) := D2.out.cell 9
  have s9 : u1.frozen? ⟨x2, 9, none⟩ = false := D2.out.frozen 9
  have p10 : u1.cell? ⟨x3, 10, none⟩ = some (.bool (z6 == 1)) := D3.out.cell 10
  have o10 : u1.cell? ⟨x2, 10, none⟩ = some (.bool false) := D2.out.cell 10
  have s10 : u1.frozen? ⟨x2, 10, none⟩ = false := D2.out.frozen 10
  have p11 : u1.cell? ⟨x3, 11, none⟩ = some (.int .i64 0) := D3.out.cell 11
  have r_11 : u1.frozen? ⟨x3, 11, none⟩ = false := D3.out.frozen 11
  have o11 : u1.cell? ⟨x2, 11, none⟩ = some (.int .i64 0) := D2.out.cell 11
  have s11 : u1.frozen? ⟨x2, 11, none⟩ = false := D2.out.frozen 11
  have p12 : u1.cell? ⟨x3, 12, none⟩ = some (.int .i64 0) := D3.out.cell 12
  have r_12 : u1.frozen? ⟨x3, 12, none⟩ = false := D3.out.frozen 12
  have o12 : u1.cell? ⟨x2, 12, none⟩ = some (.int .i64 0) := D2.out.cell 12
  have s12 : u1.frozen? ⟨x2, 12, none⟩ = false := D2.out.frozen 12
  have p13 : u1.cell? ⟨x3, 13, none⟩ = some (.bool false) := D3.out.cell 13
  have r_13 : u1.frozen? ⟨x3, 13, none⟩ = false := D3.out.frozen 13
  have o13 : u1.cell? ⟨x2, 13, none⟩ = some (.bool false) := D2.out.cell 13
  have s13 : u1.frozen? ⟨x2, 13, none⟩ = false := D2.out.frozen 13
  go_wp2_with fail
  exact bodyPost_ret (v := .agg #[.int .i64 5, .int .u64 0, .int .u64 0, .int .u32 0, .int .u32 0, .int .i64 0, .int .i64 0, .bool false, .bool (z1 == 1), .int .i64 y2, .bool (z6 == 1), .int .i64 y7, .int .i64 z11, .bool (z12 == 1)]) (by simp [results, Tryd.results60, go_sem, o0, o1, o2, o3, o4, o5, o6, o7, o8, o9, o10, o11, o12, o13]) rfl ⟨by rw [HE.out], (((((((((((((((((FU.setCell hwx3 _).setCell hwx3 _).setCell hwx3 _).setCell hwx2 _).setCell hwx2 _).setCell hwx2 _).setCell hwx2 _).setCell hwx2 _).setCell hwx2 _).setCell hwx2 _).setCell hwx2 _).setCell hwx2 _).setCell hwx2 _).setCell hwx2 _).setCell hwx2 _).setCell hwx2 _).setCell hwx2 _)⟩
set_option maxHeartbeats 4000000 in
set_option maxRecDepth 100000 in
theorem parse_6 (A : Option Addr) (c : Nat) (xs : List Int) (w : World) (h : BS w A c xs) (hk : num (xs.take 1) = 6) (hl : xs.length = 2) : Calls Tryd.prog 60 #[.slice A 2 c] w (ParseOf xs w) := by
  obtain ⟨b, off, rfl, hb, _⟩ := h.at_ (k := 0) (by omega)
  have hc : 2 ≤ c := by have := h.le; omega
  have hz0 : xs.getD 0 0 = 6 := by have := num_one (xs := xs) (i := 0) (by omega); rw [List.drop_zero] at this; rw [← this]; exact hk
  obtain ⟨z1, hz1⟩ : ∃ z, xs.getD 1 0 = z := ⟨_, rfl⟩
  have bz1 := h.bytes.getD 1
  rw [hz1] at bz1
  have hy1 : num ((xs.drop 1).take 1) = z1 := by rw [num_one (by omega), hz1]
  have q1 : wrap64 z1 = z1 := by unfold wrap64; omega
  have r1 : IntKind.i64.wrap z1 = z1 := by rw [IntKind.wrap_i64]; omega
  have HE : Hid ((optL (parseV xs)).toArray = #[.int .i64 6, .int .u64 0, .int .u64 0, .int .u32 0, .int .u32 0, .int .i64 z1, .int .i64 0, .bool false, .bool false, .int .i64 0, .bool false, .int .i64 0, .int .i64 0, .bool false]) := Lib.hid (by
    unfold parseV
    rw [hk]
    simp only [fieldsOf, parseF, List.drop_drop, Nat.reduceAdd, hy1]
    simp [optL, upd, kindV, setV, fk, q1]
    try (repeat' apply And.intro)
    all_goals rfl)
  clear hy1
  have HB := Lib.hid h; clear h
  have HY := Lib.hid hk; clear hk
  have ca : ∀ o, (w.alloc o).cell? ⟨b, off, none⟩ = some (.int .u8 6) := fun o => by rw [← hz0]; exact (HB.out.fine ((Fine.refl w).alloc o)).cellAt 0 (by omega)
  have cb1 : ∀ o o', ((w.alloc o).alloc o').cell? ⟨b, off + 1, none⟩ = some (.int .u8 z1) := fun o o' => by rw [← hz1]; exact (HB.out.fine (((Fine.refl w).alloc o).alloc o')).cellAt 1 (by omega)
  have hbw : b ≠ w.heap.size := by omega
  have hbw1 : b ≠ w.heap.size + 1 := by omega
  go_enter Tryd.func60, Tryd.ntmps60
  go_wp2_with fail
  exact bodyPost_ret (v := .agg #[.int .i64 6, .int .u64 0, .int .u64 0, .int .u32 0, .int .u32 0, .int .i64 z1, .int .i64 0, .bool false, .bool false, .int .i64 0, .bool false, .int .i64 0, .int .i64 0, .bool false]) (by simp [results, Tryd.results60, go_sem]) rfl ⟨by rw [HE.out], (by repeat (first | exact Fine.refl _ | assumption | refine Fine.alloc ?_ _ | refine Fine.drew ?_ | refine Fine.drewN ?_ _ | refine Fine.trans ?_ (by assumption) | (refine Fine.kept ?_ (by assumption) (by intro x hx; first | omega | (simp; omega))) | (refine Fine.setCell ?_ (by first | assumption | (simp; done) | (simp; omega)) _)))⟩
set_option maxHeartbeats 4000000 in
set_option maxRecDepth 100000 in
theorem parse_7 (A : Option Addr) (c : Nat) (xs : List Int) (w : World) (h : BS w A c xs) (hk : num (xs.take 1) = 7) (hl : xs.length = 2) : Calls Tryd.prog 60 #[.slice A 2 c] w (ParseOf xs w) := by
  obtain ⟨b, off, rfl, hb, _⟩ := h.at_ (k := 0) (by omega)
  have hc : 2 ≤ c := by have := h.le; omega
  have hz0 : xs.getD 0 0 = 7 := by have := num_one (xs := xs) (i := 0) (by omega); rw [List.drop_zero] at this; rw [← this]; exact hk
  obtain ⟨z1, hz1⟩ : ∃ z, xs.getD 1 0 = z := ⟨_, rfl⟩
  have bz1 := h.bytes.getD 1
  rw [hz1] at bz1
  have hy1 : num ((xs.drop 1).take 1) = z1 := by rw [num_one (by omega), hz1]
  have q1 : wrap64 z1 = z1 := by unfold wrap64; omega
  have r1 : IntKind.i64.wrap z1 = z1 := by rw [IntKind.wrap_i64]; omega
  have HE : Hid ((optL (parseV xs)).toArray = #[.int .i64 7, .int .u64 0, .int .u64 0, .int .u32 0, .int .u32 0, .int .i64 z1, .int .i64 0, .bool false, .bool false, .int .i64 0, .bool false, .int .i64 0, .int .i64 0, .bool false]) := Lib.hid (by
    unfold parseV
    rw [hk]
    simp only [fieldsOf, parseF, List.drop_drop, Nat.reduceAdd, hy1]
    simp [optL, upd, kindV, setV, fk, q1]
    try (repeat' apply And.intro)
    all_goals rfl)
  clear hy1
  have HB := Lib.hid h; clear h
  have HY := Lib.hid hk; clear hk
  have ca : ∀ o, (w.alloc o).cell? ⟨b, off, none⟩ = some (.int .u8 7) := fun o => by rw [← hz0]; exact (HB.out.fine ((Fine.refl w).alloc o)).cellAt 0 (by omega)
  have cb1 : ∀ o o', ((w.alloc o).alloc o').cell? ⟨b, off + 1, none⟩ = some (.int .u8 z1) := fun o o' => by rw [← hz1]; exact (HB.out.fine (((Fine.refl w).alloc o).alloc o')).cellAt 1 (by omega)
  have hbw : b ≠ w.heap.size := by omega
  have hbw1 : b ≠ w.heap.size + 1 := by omega
  go_enter Tryd.func60, Tryd.ntmps60
  go_wp2_with fail
  exact bodyPost_ret (v := .agg #[.int .i64 7, .int .u64 0, .int .u64 0, .int .u32 0, .int .u32 0, .int .i64 z1, .int .i64 0, .bool false, .bool false, .int .i64 0, .bool false, .int .i64 0, .int .i64 0, .bool false]) (by simp [results, Tryd.results60, go_sem]) rfl ⟨by rw [HE.out], (by repeat (first | exact Fine.refl _ | assumption | refine Fine.alloc ?_ _ | refine Fine.drew ?_ | refine Fine.drewN ?_ _ | refine Fine.trans ?_ (by assumption) | (refine Fine.kept ?_ (by assumption) (by intro x hx; first | omega | (simp; omega))) | (refine Fine.setCell ?_ (by first | assumption | (simp; done) | (simp; omega)) _)))⟩
set_option maxHeartbeats 4000000 in
set_option maxRecDepth 100000 in
theorem parse_8 (A : Option Addr) (c : Nat) (xs : List Int) (w : World) (h : BS w A c xs) (hk : num (xs.take 1) = 8) (hl : xs.length = 2) : Calls Tryd.prog 60 #[.slice A 2 c] w (ParseOf xs w) := by
  obtain ⟨b, off, rfl, hb, _⟩ := h.at_ (k := 0) (by omega)
  have hc : 2 ≤ c := by have := h.le; omega
  have hz0 : xs.getD 0 0 = 8 := by have := num_one (xs := xs) (i := 0) (by omega); rw [List.drop_zero] at this; rw [← this]; exact hk
  obtain ⟨z1, hz1⟩ : ∃ z, xs.getD 1 0 = z := ⟨_, rfl⟩
  have bz1 := h.bytes.getD 1
  rw [hz1] at bz1
  have hy1 : num ((xs.drop 1).take 1) = z1 := by rw [num_one (by omega), hz1]
  have HE : Hid ((optL (parseV xs)).toArray = #[.int .i64 8, .int .u64 0, .int .u64 0, .int .u32 0, .int .u32 0, .int .i64 0, .int .i64 0, .bool (z1 == 1), .bool false, .int .i64 0, .bool false, .int .i64 0, .int .i64 0, .bool false]) := Lib.hid (by
    unfold parseV
    rw [hk]
    simp only [fieldsOf, parseF, List.drop_drop, Nat.reduceAdd, hy1]
    simp [optL, upd, kindV, setV, fk]
    try (repeat' apply And.intro)
    all_goals rfl)
  clear hy1
  have HB := Lib.hid h; clear h
  have HY := Lib.hid hk; clear hk
  have ca : ∀ o, (w.alloc o).cell? ⟨b, off, none⟩ = some (.int .u8 8) := fun o => by rw [← hz0]; exact (HB.out.fine ((Fine.refl w).alloc o)).cellAt 0 (by omega)
  have cb1 : ∀ o o', ((w.alloc o).alloc o').cell? ⟨b, off + 1, none⟩ = some (.int .u8 z1) := fun o o' => by rw [← hz1]; exact (HB.out.fine (((Fine.refl w).alloc o).alloc o')).cellAt 1 (by omega)
  have hbw : b ≠ w.heap.size := by omega
  have hbw1 : b ≠ w.heap.size + 1 := by omega
  go_enter Tryd.func60, Tryd.ntmps60
  go_wp2_with fail
  exact bodyPost_ret (v := .agg #[.int .i64 8, .int .u64 0, .int .u64 0, .int .u32 0, .int .u32 0, .int .i64 0, .int .i64 0, .bool (z1 == 1), .bool false, .int .i64 0, .bool false, .int .i64 0, .int .i64 0, .bool false]) (by simp [results, Tryd.results60, go_sem]) rfl ⟨by rw [HE.out], (by repeat (first | exact Fine.refl _ | assumption | refine Fine.alloc ?_ _ | refine Fine.drew ?_ | refine Fine.drewN ?_ _ | refine Fine.trans ?_ (by assumption) | (refine Fine.kept ?_ (by assumption) (by intro x hx; first | omega | (simp; omega))) | (refine Fine.setCell ?_ (by first | assumption | (simp; done) | (simp; omega)) _)))⟩
set_option maxHeartbeats 4000000 in
set_option maxRecDepth 100000 in
theorem parse_9 (A : Option Addr) (c : Nat) (xs : List Int) (w : World) (h : BS w A c xs) (hk : num (xs.take 1) = 9) (hl : xs.length = 5) : Calls Tryd.prog 60 #[.slice A 5 c] w (ParseOf xs w) := by
  obtain ⟨b, off, rfl, hb, _⟩ := h.at_ (k := 0) (by omega)
  have hc : 5 ≤ c := by have := h.le; omega
  have hz0 : xs.getD 0 0 = 9 := by have := num_one (xs := xs) (i := 0) (by omega); rw [List.drop_zero] at this; rw [← this]; exact hk
  obtain ⟨y1, hy1⟩ : ∃ y, num ((xs.drop 1).take 4) = y := ⟨_, rfl⟩
  have by1 := num_bd 4 ((xs.drop 1).take 4) (by rw [List.length_take, List.length_drop]; omega) ((h.bytes.drop _).take _)
  rw [hy1] at by1
  simp only [Int.reducePow] at by1
  have q1 : wrap64 y1 = y1 := by unfold wrap64; omega
  have r1 : IntKind.i64.wrap y1 = y1 := by rw [IntKind.wrap_i64]; omega
  have HE : Hid ((optL (parseV xs)).toArray = #[.int .i64 9, .int .u64 0, .int .u64 0, .int .u32 0, .int .u32 0, .int .i64 0, .int .i64 0, .bool false, .bool false, .int .i64 0, .bool false, .int .i64 y1, .int .i64 0, .bool false]) := Lib.hid (by
    unfold parseV
    rw [hk]
    simp only [fieldsOf, parseF, List.drop_drop, Nat.reduceAdd, hy1]
    simp [optL, upd, kindV, setV, fk, q1]
    try (repeat' apply And.intro)
    all_goals rfl)
  have HB := Lib.hid h; clear h
  have HY := Lib.hid hk; clear hk
  have ca : ∀ o, (w.alloc o).cell? ⟨b, off, none⟩ = some (.int .u8 9) := fun o => by rw [← hz0]; exact (HB.out.fine ((Fine.refl w).alloc o)).cellAt 0 (by omega)
  have hbw : b ≠ w.heap.size := by omega
  have hbw1 : b ≠ w.heap.size + 1 := by omega
  go_enter Tryd.func60, Tryd.ntmps60
  go_wp2_with fail
  have B3 : Blk ((w.alloc (.cells #[.int .i64 0, .int .u64 0, .int .u64 0, .int .u32 0, .int .u32 0, .int .i64 0, .int .i64 0, .bool false, .bool false, .int .i64 0, .bool false, .int .i64 0, .int .i64 0, .bool false] 69)).alloc (.cells #[.int .i64 9, .int .u64 0, .int .u64 0, .int .u32 0, .int .u32 0, .int .i64 0, .int .i64 0, .bool false, .bool false, .int .i64 0, .bool false, .int .i64 0, .int .i64 0, .bool false] 69)) (w.heap.size + 1) 69 #[.int .i64 9, .int .u64 0, .int .u64 0, .int .u32 0, .int .u32 0, .int .i64 0, .int .i64 0, .bool false, .bool false, .int .i64 0, .bool false, .int .i64 0, .int .i64 0, .bool false] := (Blk.newAt (w := (w.alloc (.cells #[.int .i64 0, .int .u64 0, .int .u64 0, .int .u32 0, .int .u32 0, .int .i64 0, .int .i64 0, .bool false, .bool false, .int .i64 0, .bool false, .int .i64 0, .int .i64 0, .bool false] 69))) (g := w.heap.size + 1) (t := 69) (cs := #[.int .i64 9, .int .u64 0, .int .u64 0, .int .u32 0, .int .u32 0, .int .i64 0, .int .i64 0, .bool false, .bool false, .int .i64 0, .bool false, .int .i64 0, .int .i64 0, .bool false]) (by simp))
  have B2 : Blk ((w.alloc (.cells #[.int .i64 0, .int .u64 0, .int .u64 0, .int .u32 0, .int .u32 0, .int .i64 0, .int .i64 0, .bool false, .bool false, .int .i64 0, .bool false, .int .i64 0, .int .i64 0, .bool false] 69)).alloc (.cells #[.int .i64 9, .int .u64 0, .int .u64 0, .int .u32 0, .int .u32 0, .int .i64 0, .int .i64 0, .bool false, .bool false, .int .i64 0, .bool false, .int .i64 0, .int .i64 0, .bool false] 69)) w.heap.size 69 #[.int .i64 0, .int .u64 0, .int .u64 0, .int .u32 0, .int .u32 0, .int .i64 0, .int .i64 0, .bool false, .bool false, .int .i64 0, .bool false, .int .i64 0, .int .i64 0, .bool false] := ((Blk.new w 69 #[.int .i64 0, .int .u64 0, .int .u64 0, .int .u32 0, .int .u32 0, .int .i64 0, .int .i64 0, .bool false, .bool false, .int .i64 0, .bool false, .int .i64 0, .int .i64 0, .bool false]).alloc (.cells #[.int .i64 9, .int .u64 0, .int .u64 0, .int .u32 0, .int .u32 0, .int .i64 0, .int .i64 0, .bool false, .bool false, .int .i64 0, .bool false, .int .i64 0, .int .i64 0, .bool false] 69))
  have F0 : Fine w ((w.alloc (.cells #[.int .i64 0, .int .u64 0, .int .u64 0, .int .u32 0, .int .u32 0, .int .i64 0, .int .i64 0, .bool false, .bool false, .int .i64 0, .bool false, .int .i64 0, .int .i64 0, .bool false] 69)).alloc (.cells #[.int .i64 9, .int .u64 0, .int .u64 0, .int .u32 0, .int .u32 0, .int .i64 0, .int .i64 0, .bool false, .bool false, .int .i64 0, .bool false, .int .i64 0, .int .i64 0, .bool false] 69)) := (((Fine.refl w).alloc _).alloc _)
  generalize ((w.alloc (.cells #[.int .i64 0, .int .u64 0, .int .u64 0, .int .u32 0, .int .u32 0, .int .i64 0, .int .i64 0, .bool false, .bool false, .int .i64 0, .bool false, .int .i64 0, .int .i64 0, .bool false] 69)).alloc (.cells #[.int .i64 9, .int .u64 0, .int .u64 0, .int .u32 0, .int .u32 0, .int .i64 0, .int .i64 0, .bool false, .bool false, .int .i64 0, .bool false, .int .i64 0, .int .i64 0, .bool false] 69)) = w0 at B3 B2 F0 ⊢
  obtain ⟨x2, hx2⟩ : ∃ x2, w.heap.size = x2 := ⟨_, rfl⟩
  obtain ⟨x3, hx3⟩ : ∃ x3, w.heap.size + 1 = x3 := ⟨_, rfl⟩
  rw [hx3] at B3 ⊢
  rw [hx2] at B2 ⊢
  have hwx2 : w.heap.size ≤ x2 := by omega
  have hwx3 : w.heap.size ≤ x3 := by omega
  have hx23 : x2 ≠ x3 := by omega
  have hbx3 : b ≠ x3 := by omega
  have hbx2 : b ≠ x2 := by omega
  clear hbw hbw1 hx2 hx3 ca
  have HB0 := Lib.hid (HB.out.fine F0)
  refine (number_n (some ⟨b, off + 1, none⟩) 4 (c - 1) ((xs.drop 1).take 4) w0 (HB0.out.mid 1 4 (by omega)) (by rw [List.length_take, List.length_drop]; omega) (by rw [List.length_take, List.length_drop]; omega)).mono ?_
  rintro x u0 ⟨rfl, g0⟩
  rw [hy1]
  have D3 := Lib.hid (B3.fine g0)
  have D2 := Lib.hid (B2.fine g0)
  have HU := Lib.hid (HB0.out.fine g0)
  have FU := F0.trans g0
  clear B3 B2 F0 g0 HB0
  have p0 : u0.cell? ⟨x3, 0, none⟩ = some (.int .i64 9) := D3.out.cell 0
  have o0 : u0.cell? ⟨x2, 0, none⟩ = some (.int .i64 0) := D2.out.cell 0
  have s0 : u0.frozen? ⟨x2, 0, none⟩ = false := D2.out.frozen 0
  have p1 : u0.cell? ⟨x3, 1, none⟩ = some (.int .u64 0) := D3.out.cell 1
  have o1 : u0.cell? ⟨x2, 1, none⟩ = some (.int .u64 0) := D2.out.cell 1
  have s1 : u0.frozen? ⟨x2, 1, none⟩ = false := D2.out.frozen 1
  have p2 : u0.cell? ⟨x3, 2, none⟩ = some (.int .u64 0) := D3.out.cell 2
  have o2 : u0.cell? ⟨x2, 2, none⟩ = some (.int .u64 0) := D2.out.cell 2
  have s2 : u0.frozen? ⟨x2, 2, none⟩ = false := D2.out.frozen 2
  have p3 : u0.cell? ⟨x3, 3, none⟩ = some (.int .u32 0) := D3.out.cell 3
  have o3 : u0.cell? ⟨x2, 3, none⟩ = some (.int .u32 0) := D2.out.cell 3
  have s3 : u0.frozen? ⟨x2, 3, none⟩ = false := D2.out.frozen 3
  have p4 : u0.cell? ⟨x3, 4, none⟩ = some (.int .u32 0) := D3.out.cell 4
  have o4 : u0.cell? ⟨x2, 4, none⟩ = some (.int .u32 0) := D2.out.cell 4
  have s4 : u0.frozen? ⟨x2, 4, none⟩ = false := D2.out.frozen 4
  have p5 : u0.cell? ⟨x3, 5, none⟩ = some (.int .i64 0) := D3.out.cell 5
  have o5 : u0.cell? ⟨x2, 5, none⟩ = some (.int .i64 0) := D2.out.cell 5
  have s5 : u0.frozen? ⟨x2, 5, none⟩ = false := D2.out.frozen 5
  have p6 : u0.cell? ⟨x3, 6, none⟩ = some (.int .i64 0) := D3.out.cell 6
  have o6 : u0.cell? ⟨x2, 6, none⟩ = some (.int .i64 0) := D2.out.cell 6
  have s6 : u0.frozen? ⟨x2, 6, none⟩ = false := D2.out.frozen 6
  have p7 : u0.cell? ⟨x3, 7, none⟩ = some (.bool false) := D3.out.cell 7
  have o7 : u0.cell? ⟨x2, 7, none⟩ = some (.bool false) := D2.out.cell 7
  have s7 : u0.frozen? ⟨x2, 7, none⟩ = false := D2.out.frozen 7
  have p8 : u0.cell? ⟨x3, 8, none⟩ = some (.bool false) := D3.out.cell 8
  have o8 : u0.cell? ⟨x2, 8, none⟩ = some (.bool false) := D2.out.cell 8
  have s8 : u0.frozen? ⟨x2, 8, none⟩ = false := D2.out.frozen 8
  have p9 : u0.cell? ⟨x3, 9, none⟩ = some (.int .i64 0) := D3.out.cell 9
  have o9 : u0.cell? ⟨x2, 9, none⟩ = some (.int .i64 0) := D2.out.cell 9
  have s9 : u0.frozen? ⟨x2, 9, none⟩ = false := D2.out.frozen 9
  have p10 : u0.cell? ⟨x3, 10, none⟩ = some (.bool false) := D3.out.cell 10
  have o10 : u0.cell? ⟨x2, 10, none⟩ = some (.bool false) := D2.out.cell 10
  have s10 : u0.frozen? ⟨x2, 10, none⟩ = false := D2.out.frozen 10
  have p11 : u0.cell? ⟨x3, 11, none⟩ = some (.int .i64 0) := D3.out.cell 11
  have r_11 : u0.frozen? ⟨x3, 11, none⟩ = false := D3.out.frozen 11
  have o11 : u0.cell? ⟨x2, 11, none⟩ = some (.int .i64 0) := D2.out.cell 11
  have s11 : u0.frozen? ⟨x2, 11, none⟩ = false := D2.out.frozen 11
  have p12 : u0.cell? ⟨x3, 12, none⟩ = some (.int .i64 0) := D3.out.cell 12
  have o12 : u0.cell? ⟨x2, 12, none⟩ = some (.int .i64 0) := D2.out.cell 12
  have s12 : u0.frozen? ⟨x2, 12, none⟩ = false := D2.out.frozen 12
  have p13 : u0.cell? ⟨x3, 13, none⟩ = some (.bool false) := D3.out.cell 13
  have o13 : u0.cell? ⟨x2, 13, none⟩ = some (.bool false) := D2.out.cell 13
  have s13 : u0.frozen? ⟨x2, 13, none⟩ = false := D2.out.frozen 13
  go_wp2_with fail
  exact bodyPost_ret (v := .agg #[.int .i64 9, .int .u64 0, .int .u64 0, .int .u32 0, .int .u32 0, .int .i64 0, .int .i64 0, .bool false, .bool false, .int .i64 0, .bool false, .int .i64 y1, .int .i64 0, .bool false]) (by simp [results, Tryd.results60, go_sem, o0, o1, o2, o3, o4, o5, o6, o7, o8, o9, o10, o11, o12, o13]) rfl ⟨by rw [HE.out], (((((((((((((((FU.setCell hwx3 _).setCell hwx2 _).setCell hwx2 _).setCell hwx2 _).setCell hwx2 _).setCell hwx2 _).setCell hwx2 _).setCell hwx2 _).setCell hwx2 _).setCell hwx2 _).setCell hwx2 _).setCell hwx2 _).setCell hwx2 _).setCell hwx2 _).setCell hwx2 _)⟩
set_option maxHeartbeats 4000000 in
set_option maxRecDepth 100000 in
theorem parse_10 (A : Option Addr) (c : Nat) (xs : List Int) (w : World) (h : BS w A c xs) (hk : num (xs.take 1) = 10) (hl : xs.length = 9) : Calls Tryd.prog 60 #[.slice A 9 c] w (ParseOf xs w) := by
  obtain ⟨b, off, rfl, hb, _⟩ := h.at_ (k := 0) (by omega)
  have hc : 9 ≤ c := by have := h.le; omega
  have hz0 : xs.getD 0 0 = 10 := by have := num_one (xs := xs) (i := 0) (by omega); rw [List.drop_zero] at this; rw [← this]; exact hk
  obtain ⟨y1, hy1⟩ : ∃ y, num ((xs.drop 1).take 8) = y := ⟨_, rfl⟩
  have by1 := num_bd 8 ((xs.drop 1).take 8) (by rw [List.length_take, List.length_drop]; omega) ((h.bytes.drop _).take _)
  rw [hy1] at by1
  simp only [Int.reducePow] at by1
  have HE : Hid ((optL (parseV xs)).toArray = #[.int .i64 10, .int .u64 y1, .int .u64 0, .int .u32 0, .int .u32 0, .int .i64 0, .int .i64 0, .bool false, .bool false, .int .i64 0, .bool false, .int .i64 0, .int .i64 0, .bool false]) := Lib.hid (by
    unfold parseV
    rw [hk]
    simp only [fieldsOf, parseF, List.drop_drop, Nat.reduceAdd, hy1]
    simp [optL, upd, kindV, setV, fk]
    try (repeat' apply And.intro)
    all_goals rfl)
  have HB := Lib.hid h; clear h
  have HY := Lib.hid hk; clear hk
  have ca : ∀ o, (w.alloc o).cell? ⟨b, off, none⟩ = some (.int .u8 10) := fun o => by rw [← hz0]; exact (HB.out.fine ((Fine.refl w).alloc o)).cellAt 0 (by omega)
  have hbw : b ≠ w.heap.size := by omega
  have hbw1 : b ≠ w.heap.size + 1 := by omega
  go_enter Tryd.func60, Tryd.ntmps60
  go_wp2_with fail
  have B3 : Blk ((w.alloc (.cells #[.int .i64 0, .int .u64 0, .int .u64 0, .int .u32 0, .int .u32 0, .int .i64 0, .int .i64 0, .bool false, .bool false, .int .i64 0, .bool false, .int .i64 0, .int .i64 0, .bool false] 69)).alloc (.cells #[.int .i64 10, .int .u64 0, .int .u64 0, .int .u32 0, .int .u32 0, .int .i64 0, .int .i64 0, .bool false, .bool false, .int .i64 0, .bool false, .int .i64 0, .int .i64 0, .bool false] 69)) (w.heap.size + 1) 69 #[.int .i64 10, .int .u64 0, .int .u64 0, .int .u32 0, .int .u32 0, .int .i64 0, .int .i64 0, .bool false, .bool false, .int .i64 0, .bool false, .int .i64 0, .int .i64 0, .bool false] := (Blk.newAt (w := (w.alloc (.cells #[.int .i64 0, .int .u64 0, .int .u64 0, .int .u32 0, .int .u32 0, .int .i64 0, .int .i64 0, .bool false, .bool false, .int .i64 0, .bool false, .int .i64 0, .int .i64 0, .bool false] 69))) (g := w.heap.size + 1) (t := 69) (cs := #[.int .i64 10, .int .u64 0, .int .u64 0, .int .u32 0, .int .u32 0, .int .i64 0, .int .i64 0, .bool false, .bool false, .int .i64 0, .bool false, .int .i64 0, .int .i64 0, .bool false]) (by simp))
  have B2 : Blk ((w.alloc (.cells #[.int .i64 0, .int .u64 0, .int .u64 0, .int .u32 0, .int .u32 0, .int .i64 0, .int .i64 0, .bool false, .bool false, .int .i64 0, .bool false, .int .i64 0, .int .i64 0, .bool false] 69)).alloc (.cells #[.int .i64 10, .int .u64 0, .int .u64 0, .int .u32 0, .int .u32 0, .int .i64 0, .int .i64 0, .bool false, .bool false, .int .i64 0, .bool false, .int .i64 0, .int .i64 0, .bool false] 69)) w.heap.size 69 #[.int .i64 0, .int .u64 0, .int .u64 0, .int .u32 0, .int .u32 0, .int .i64 0, .int .i64 0, .bool false, .bool false, .int .i64 0, .bool false, .int .i64 0, .int .i64 0, .bool false] := ((Blk.new w 69 #[.int .i64 0, .int .u64 0, .int .u64 0, .int .u32 0, .int .u32 0, .int .i64 0, .int .i64 0, .bool false, .bool false, .int .i64 0, .bool false, .int .i64 0, .int .i64 0, .bool false]).alloc (.cells #[.int .i64 10, .int .u64 0, .int .u64 0, .int .u32 0, .int .u32 0, .int .i64 0, .int .i64 0, .bool false, .bool false, .int .i64 0, .bool false, .int .i64 0, .int .i64 0, .bool false] 69))
  have F0 : Fine w ((w.alloc (.cells #[.int .i64 0, .int .u64 0, .int .u64 0, .int .u32 0, .int .u32 0, .int .i64 0, .int .i64 0, .bool false, .bool false, .int .i64 0, .bool false, .int .i64 0, .int .i64 0, .bool false] 69)).alloc (.cells #[.int .i64 10, .int .u64 0, .int .u64 0, .int .u32 0, .int .u32 0, .int .i64 0, .int .i64 0, .bool false, .bool false, .int .i64 0, .bool false, .int .i64 0, .int .i64 0, .bool false] 69)) := (((Fine.refl w).alloc _).alloc _)
  generalize ((w.alloc (.cells #[.int .i64 0, .int .u64 0, .int .u64 0, .int .u32 0, .int .u32 0, .int .i64 0, .int .i64 0, .bool false, .bool false, .int .i64 0, .bool false, .int .i64 0, .int .i64 0, .bool false] 69)).alloc (.cells #[.int .i64 10, .int .u64 0, .int .u64 0, .int .u32 0, .int .u32 0, .int .i64 0, .int .i64 0, .bool false, .bool false, .int .i64 0, .bool false, .int .i64 0, .int .i64 0, .bool false] 69)) = w0 at B3 B2 F0 ⊢
  obtain ⟨x2, hx2⟩ : ∃ x2, w.heap.size = x2 := ⟨_, rfl⟩
  obtain ⟨x3, hx3⟩ : ∃ x3, w.heap.size + 1 = x3 := ⟨_, rfl⟩
  rw [hx3] at B3 ⊢
  rw [hx2] at B2 ⊢
  have hwx2 : w.heap.size ≤ x2 := by omega
  have hwx3 : w.heap.size ≤ x3 := by omega
  have hx23 : x2 ≠ x3 := by omega
  have hbx3 : b ≠ x3 := by omega
  have hbx2 : b ≠ x2 := by omega
  clear hbw hbw1 hx2 hx3 ca
  have HB0 := Lib.hid (HB.out.fine F0)
  refine (number_n (some ⟨b, off + 1, none⟩) 8 (c - 1) ((xs.drop 1).take 8) w0 (HB0.out.mid 1 8 (by omega)) (by rw [List.length_take, List.length_drop]; omega) (by rw [List.length_take, List.length_drop]; omega)).mono ?_
  rintro x u0 ⟨rfl, g0⟩
  rw [hy1]
  have D3 := Lib.hid (B3.fine g0)
  have D2 := Lib.hid (B2.fine g0)
  have HU := Lib.hid (HB0.out.fine g0)
  have FU := F0.trans g0
  clear B3 B2 F0 g0 HB0
  have p0 : u0.cell? ⟨x3, 0, none⟩ = some (.int .i64 10) := D3.out.cell 0
  have o0 : u0.cell? ⟨x2, 0, none⟩ = some (.int .i64 0) := D2.out.cell 0
  have s0 : u0.frozen? ⟨x2, 0, none⟩ = false := D2.out.frozen 0
  have p1 : u0.cell? ⟨x3, 1, none⟩ = some (.int .u64 0) := D3.out.cell 1
  have r_1 : u0.frozen? ⟨x3, 1, none⟩ = false := D3.out.frozen 1
  have o1 : u0.cell? ⟨x2, 1, none⟩ = some (.int .u64 0) := D2.out.cell 1
  have s1 : u0.frozen? ⟨x2, 1, none⟩ = false := D2.out.frozen 1
  have p2 : u0.cell? ⟨x3, 2, none⟩ = some (.int .u64 0) := D3.out.cell 2
  have o2 : u0.cell? ⟨x2, 2, none⟩ = some (.int .u64 0) := D2.out.cell 2
  have s2 : u0.frozen? ⟨x2, 2, none⟩ = false := D2.out.frozen 2
  have p3 : u0.cell? ⟨x3, 3, none⟩ = some (.int .u32 0) := D3.out.cell 3
  have o3 : u0.cell? ⟨x2, 3, none⟩ = some (.int .u32 0) := D2.out.cell 3
  have s3 : u0.frozen? ⟨x2, 3, none⟩ = false := D2.out.frozen 3
  have p4 : u0.cell? ⟨x3, 4, none⟩ = some (.int .u32 0) := D3.out.cell 4
  have o4 : u0.cell? ⟨x2, 4, none⟩ = some (.int .u32 0) := D2.out.cell 4
  have s4 : u0.frozen? ⟨x2, 4, none⟩ = false := D2.out.frozen 4
  have p5 : u0.cell? ⟨x3, 5, none⟩ = some (.int .i64 0) := D3.out.cell 5
  have o5 : u0.cell? ⟨x2, 5, none⟩ = some (.int .i64 0) := D2.out.cell 5
  have s5 : u0.frozen? ⟨x2, 5, none⟩ = false := D2.out.frozen 5
  have p6 : u0.cell? ⟨x3, 6, none⟩ = some (.int .i64 0) := D3.out.cell 6
  have o6 : u0.cell? ⟨x2, 6, none⟩ = some (.int .i64 0) := D2.out.cell 6
  have s6 : u0.frozen? ⟨x2, 6, none⟩ = false := D2.out.frozen 6
  have p7 : u0.cell? ⟨x3, 7, none⟩ = some (.bool false) := D3.out.cell 7
  have o7 : u0.cell? ⟨x2, 7, none⟩ = some (.bool false) := D2.out.cell 7
  have s7 : u0.frozen? ⟨x2, 7, none⟩ = false := D2.out.frozen 7
  have p8 : u0.cell? ⟨x3, 8, none⟩ = some (.bool false) := D3.out.cell 8
  have o8 : u0.cell? ⟨x2, 8, none⟩ = some (.bool false) := D2.out.cell 8
  have s8 : u0.frozen? ⟨x2, 8, none⟩ = false := D2.out.frozen 8
  have p9 : u0.cell? ⟨x3, 9, none⟩ = some (.int .i64 0) := D3.out.cell 9
  have o9 : u0.cell? ⟨x2, 9, none⟩ = some (.int .i64 0) := D2.out.cell 9
  have s9 : u0.frozen? ⟨x2, 9, none⟩ = false := D2.out.frozen 9
  have p10 : u0.cell? ⟨x3, 10, none⟩ = some (.bool false) := D3.out.cell 10
  have o10 : u0.cell? ⟨x2, 10, none⟩ = some (.bool false) := D2.out.cell 10
  have s10 : u0.frozen? ⟨x2, 10, none⟩ = false := D2.out.frozen 10
  have p11 : u0.cell? ⟨x3, 11, none⟩ = some (.int .i64 0) := D3.out.cell 11
  have o11 : u0.cell? ⟨x2, 11, none⟩ = some (.int .i64 0) := D2.out.cell 11
  have s11 : u0.frozen? ⟨x2, 11, none⟩ = false := D2.out.frozen 11
  have p12 : u0.cell? ⟨x3, 12, none⟩ = some (.int .i64 0) := D3.out.cell 12
  have o12 : u0.cell? ⟨x2, 12, none⟩ = some (.int .i64 0) := D2.out.cell 12
  have s12 : u0.frozen? ⟨x2, 12, none⟩ = false := D2.out.frozen 12
  have p13 : u0.cell? ⟨x3, 13, none⟩ = some (.bool false) := D3.out.cell 13
  have o13 : u0.cell? ⟨x2, 13, none⟩ = some (.bool false) := D2.out.cell 13
  have s13 : u0.frozen? ⟨x2, 13, none⟩ = false := D2.out.frozen 13
  go_wp2_with fail
  exact bodyPost_ret (v := .agg #[.int .i64 10, .int .u64 y1, .int .u64 0, .int .u32 0, .int .u32 0, .int .i64 0, .int .i64 0, .bool false, .bool false, .int .i64 0, .bool false, .int .i64 0, .int .i64 0, .bool false]) (by simp [results, Tryd.results60, go_sem, o0, o1, o2, o3, o4, o5, o6, o7, o8, o9, o10, o11, o12, o13]) rfl ⟨by rw [HE.out], (((((((((((((((FU.setCell hwx3 _).setCell hwx2 _).setCell hwx2 _).setCell hwx2 _).setCell hwx2 _).setCell hwx2 _).setCell hwx2 _).setCell hwx2 _).setCell hwx2 _).setCell hwx2 _).setCell hwx2 _).setCell hwx2 _).setCell hwx2 _).setCell hwx2 _).setCell hwx2 _)⟩
set_option maxHeartbeats 4000000 in
set_option maxRecDepth 100000 in
theorem parse_11 (A : Option Addr) (c : Nat) (xs : List Int) (w : World) (h : BS w A c xs) (hk : num (xs.take 1) = 11) (hl : xs.length = 2) : Calls Tryd.prog 60 #[.slice A 2 c] w (ParseOf xs w) := by
  obtain ⟨b, off, rfl, hb, _⟩ := h.at_ (k := 0) (by omega)
  have hc : 2 ≤ c := by have := h.le; omega
  have hz0 : xs.getD 0 0 = 11 := by have := num_one (xs := xs) (i := 0) (by omega); rw [List.drop_zero] at this; rw [← this]; exact hk
  obtain ⟨z1, hz1⟩ : ∃ z, xs.getD 1 0 = z := ⟨_, rfl⟩
  have bz1 := h.bytes.getD 1
  rw [hz1] at bz1
  have hy1 : num ((xs.drop 1).take 1) = z1 := by rw [num_one (by omega), hz1]
  have q1 : wrap64 z1 = z1 := by unfold wrap64; omega
  have r1 : IntKind.i64.wrap z1 = z1 := by rw [IntKind.wrap_i64]; omega
  have HE : Hid ((optL (parseV xs)).toArray = #[.int .i64 11, .int .u64 0, .int .u64 0, .int .u32 0, .int .u32 0, .int .i64 0, .int .i64 z1, .bool false, .bool false, .int .i64 0, .bool false, .int .i64 0, .int .i64 0, .bool false]) := Lib.hid (by
    unfold parseV
    rw [hk]
    simp only [fieldsOf, parseF, List.drop_drop, Nat.reduceAdd, hy1]
    simp [optL, upd, kindV, setV, fk, q1]
    try (repeat' apply And.intro)
    all_goals rfl)
  clear hy1
  have HB := Lib.hid h; clear h
  have HY := Lib.hid hk; clear hk
  have ca : ∀ o, (w.alloc o).cell? ⟨b, off, none⟩ = some (.int .u8 11) := fun o => by rw [← hz0]; exact (HB.out.fine ((Fine.refl w).alloc o)).cellAt 0 (by omega)
  have cb1 : ∀ o o', ((w.alloc o).alloc o').cell? ⟨b, off + 1, none⟩ = some (.int .u8 z1) := fun o o' => by rw [← hz1]; exact (HB.out.fine (((Fine.refl w).alloc o).alloc o')).cellAt 1 (by omega)
  have hbw : b ≠ w.heap.size := by omega
  have hbw1 : b ≠ w.heap.size + 1 := by omega
  go_enter Tryd.func60, Tryd.ntmps60
  go_wp2_with fail
  exact bodyPost_ret (v := .agg #[.int .i64 11, .int .u64 0, .int .u64 0, .int .u32 0, .int .u32 0, .int .i64 0, .int .i64 z1, .bool false, .bool false, .int .i64 0, .bool false, .int .i64 0, .int .i64 0, .bool false]) (by simp [results, Tryd.results60, go_sem]) rfl ⟨by rw [HE.out], (by repeat (first | exact Fine.refl _ | assumption | refine Fine.alloc ?_ _ | refine Fine.drew ?_ | refine Fine.drewN ?_ _ | refine Fine.trans ?_ (by assumption) | (refine Fine.kept ?_ (by assumption) (by intro x hx; first | omega | (simp; omega))) | (refine Fine.setCell ?_ (by first | assumption | (simp; done) | (simp; omega)) _)))⟩
theorem parse_any (A : Option Addr) (c : Nat) (xs : List Int) (w : World) (h : BS w A c xs) (hk : 1 ≤ num (xs.take 1) ∧ num (xs.take 1) ≤ 11) (hl : (xs.length : Int) = sizeK (num (xs.take 1))) : Calls Tryd.prog 60 #[.slice A xs.length c] w (ParseOf xs w) := by
  have hs : num (xs.take 1) = 1 ∨ num (xs.take 1) = 2 ∨ num (xs.take 1) = 3 ∨ num (xs.take 1) = 4 ∨ num (xs.take 1) = 5 ∨ num (xs.take 1) = 6 ∨ num (xs.take 1) = 7 ∨ num (xs.take 1) = 8 ∨ num (xs.take 1) = 9 ∨ num (xs.take 1) = 10 ∨ num (xs.take 1) = 11 := by omega
  rcases hs with e | e | e | e | e | e | e | e | e | e | e
  all_goals rw [e] at hl
  · have e2 : xs.length = 9 := by have : sizeK 1 = 9 := rfl; omega
    rw [e2]; exact parse_1 A c xs w h e e2
  · have e2 : xs.length = 11 := by have : sizeK 2 = 11 := rfl; omega
    rw [e2]; exact parse_2 A c xs w h e e2
  · have e2 : xs.length = 13 := by have : sizeK 3 = 13 := rfl; omega
    rw [e2]; exact parse_3 A c xs w h e e2
  · have e2 : xs.length = 9 := by have : sizeK 4 = 9 := rfl; omega
    rw [e2]; exact parse_4 A c xs w h e e2
  · have e2 : xs.length = 13 := by have : sizeK 5 = 13 := rfl; omega
    rw [e2]; exact parse_5 A c xs w h e e2
  · have e2 : xs.length = 2 := by have : sizeK 6 = 2 := rfl; omega
    rw [e2]; exact parse_6 A c xs w h e e2
  · have e2 : xs.length = 2 := by have : sizeK 7 = 2 := rfl; omega
    rw [e2]; exact parse_7 A c xs w h e e2
  · have e2 : xs.length = 2 := by have : sizeK 8 = 2 := rfl; omega
    rw [e2]; exact parse_8 A c xs w h e e2
  · have e2 : xs.length = 5 := by have : sizeK 9 = 5 := rfl; omega
    rw [e2]; exact parse_9 A c xs w h e e2
  · have e2 : xs.length = 9 := by have : sizeK 10 = 9 := rfl; omega
    rw [e2]; exact parse_10 A c xs w h e e2
  · have e2 : xs.length = 2 := by have : sizeK 11 = 2 := rfl; omega
    rw [e2]; exact parse_11 A c xs w h e e2
end Go.Proofs.YthnennleblgjeaaDoor
