/- Contracts of package path: Next; and where there is none. -/
import Derived.Test.YtbgdcpecpcmjdaaPath4
namespace Go.Proofs.Ytbgdcpecpcmjdaa
open Go.ChangeShapes Go.WideShapes Go.ChangeAt Go.RowKit
set_option linter.unusedVariables false

/-! Where there is none. -/
theorem tell_nil (a : Int) (w : World) : Calls Try.prog 9 #[.pointer none, .int .i64 a] w fun e w' => e = .returned (.int .i64 2) ∧ w = w' := by
  go_enter Try.func9, Try.ntmps9
  go_wp2
  go_ret
  exact ⟨rfl, rfl⟩
theorem untell_nil (a : Int) (w : World) : Calls Try.prog 19 #[.pointer none, .int .i64 a] w fun e w' => e = .returned (.int .i64 2) ∧ w = w' := by
  go_enter Try.func19, Try.ntmps19
  go_wp2
  go_ret
  exact ⟨rfl, rfl⟩
theorem told_nil (a : Int) (w : World) : Calls Try.prog 10 #[.pointer none, .int .i64 a] w fun e w' => e = .returned (.tuple #[]) ∧ w = w' := by
  go_enter Try.func10, Try.ntmps10
  go_wp2
  go_end0
  exact ⟨rfl, rfl⟩
theorem untold_nil (a : Int) (w : World) : Calls Try.prog 23 #[.pointer none, .int .i64 a] w fun e w' => e = .returned (.slice none 0 0) ∧ w = w' := by
  go_enter Try.func23, Try.ntmps23
  go_wp2
  go_ret
  exact ⟨rfl, rfl⟩
theorem join_nil (a b : Int) (w : World) : Calls Try.prog 12 #[.pointer none, .int .i64 a, .int .i64 b] w fun e w' => e = .returned (.int .i64 2) ∧ w = w' := by
  go_enter Try.func12, Try.ntmps12
  go_wp2
  go_ret
  exact ⟨rfl, rfl⟩
theorem gone_nil (a b : Int) (w : World) : Calls Try.prog 16 #[.pointer none, .int .i64 a, .int .i64 b] w fun e w' => e = .returned (.bool false) ∧ w = w' := by
  go_enter Try.func16, Try.ntmps16
  go_wp2
  go_ret
  exact ⟨rfl, rfl⟩
theorem own_nil (w : World) : Calls Try.prog 14 #[.pointer none] w fun e w' => e = .returned (.slice none 0 0) ∧ w = w' := by
  go_enter Try.func14, Try.ntmps14
  go_wp2
  go_ret
  exact ⟨rfl, rfl⟩
theorem other_nil (w : World) : Calls Try.prog 15 #[.pointer none] w fun e w' => e = .returned (.slice none 0 0) ∧ w = w' := by
  go_enter Try.func15, Try.ntmps15
  go_wp2
  go_ret
  exact ⟨rfl, rfl⟩
theorem pairs_nil (w : World) : Calls Try.prog 13 #[.pointer none] w fun e w' => e = .returned (.slice none 0 0) ∧ w = w' := by
  go_enter Try.func13, Try.ntmps13
  go_wp2
  go_ret
  exact ⟨rfl, rfl⟩

def nextV : Option (Int × Int) → Value
  | none => .tuple #[.agg #[.int .i64 0, .int .i64 0], .bool false]
  | some (x, y) => .tuple #[.agg #[.int .i64 x, .int .i64 y], .bool true]
theorem next_nil (w : World) : Calls Try.prog 11 #[.pointer none] w fun e w' => e = .returned (nextV none) ∧ Fine w w' := by
  go_enter Try.func11, Try.ntmps11
  go_wp2
  go_region
  go_wp2
  exact bodyPost_ret (v := .tuple #[.agg #[.int .i64 0, .int .i64 0], .bool false]) (by simp [results, Try.results11, go_sem]) rfl ⟨rfl, (by repeat (first | exact Fine.refl _ | assumption | refine Fine.alloc ?_ _ | refine Fine.drew ?_ | refine Fine.drewN ?_ _ | refine Fine.trans ?_ (by assumption) | (refine Fine.kept ?_ (by assumption) (by intro x hx; first | omega | (simp; omega))) | (refine Fine.setCell ?_ (by first | assumption | (simp; done) | (simp; omega)) _)))⟩

theorem flowI_at {L : List Bool} {a b : Nat} : flowI L a b = L.getD (8 + a * 4 + b) false := by unfold flowI flowB; rw [Int.toNat_natCast, Int.toNat_natCast]
set_option maxHeartbeats 2000000 in
theorem next_any (g : Nat) (L : List Bool) (m : Int) (w : World) (h : PMB w g L m) :
    Calls Try.prog 11 #[.pointer (some ⟨g, 0, none⟩)] w fun e w' => e = .returned (nextV (nextOf L m)) ∧ Fine w w' := by
  have hlt := h.lt
  have H := Lib.hid h
  have c3 := h.most
  clear h
  by_cases hl : m ≤ ((pairsN L 4).length : Int)
  · have HN : Hid (nextOf L m = none) := by show _ = _; unfold nextOf; rw [if_pos hl]
    rw [HN.out]
    go_enter Try.func11, Try.ntmps11
    go_wp2_with fail
    have f0 : Fine w (w.alloc (.cells #[.int .i64 0, .int .i64 0] 31)) := (by repeat (first | exact Fine.refl _ | assumption | refine Fine.alloc ?_ _ | refine Fine.drew ?_ | refine Fine.drewN ?_ _ | refine Fine.trans ?_ (by assumption) | (refine Fine.kept ?_ (by assumption) (by intro x hx; first | omega | (simp; omega))) | (refine Fine.setCell ?_ (by first | assumption | (simp; done) | (simp; omega)) _)))
    have d3 : (w.alloc (.cells #[.int .i64 0, .int .i64 0] 31)).cell? ⟨g, 24, none⟩ = some (.int .i64 m) := (f0.cell (p := ⟨g, _, none⟩) hlt).trans c3
    go_region_held3 (fun w' => w'.cell? ⟨g, 24, none⟩ = some (.int .i64 m)) (first | exact d3 | exact (f3.cell (p := ⟨g, 24, none⟩) (Nat.lt_of_lt_of_le hlt f0.size)).trans d3)
      (first | (go_at_call 13; refine (pairs_any g L m _ ?_).mono ?_; (exact H.out.fine (by repeat (first | exact Fine.refl _ | assumption | refine Fine.alloc ?_ _ | refine Fine.drew ?_ | refine Fine.drewN ?_ _ | refine Fine.trans ?_ (by assumption) | (refine Fine.kept ?_ (by assumption) (by intro x hx; first | omega | (simp; omega))) | (refine Fine.setCell ?_ (by first | assumption | (simp; done) | (simp; omega)) _)))); rintro e w3 ⟨A3, c3, rfl, ho3, f3⟩))
    have f03 : Fine w w3 := f0.trans f3.of_drew
    have hB : Blk w3 w.heap.size 31 #[.int .i64 0, .int .i64 0] := (Blk.new w 31 #[.int .i64 0, .int .i64 0]).fine f3.of_drew
    have b0 : w3.cell? ⟨w.heap.size, 0, none⟩ = some (.int .i64 0) := hB.cell 0
    have b1 : w3.cell? ⟨w.heap.size, 1, none⟩ = some (.int .i64 0) := hB.cell 1
    have r0 := hB.frozen 0
    have r1 := hB.frozen 1
    have HB := Lib.hid hB; clear hB ho3 f3 d3 f0
    go_wp2_with fail
    exact bodyPost_ret (v := .tuple #[.agg #[.int .i64 0, .int .i64 0], .bool false]) (by simp [results, Try.results11, go_sem, b0, b1]) rfl ⟨rfl, (by repeat (first | exact Fine.refl _ | assumption | refine Fine.alloc ?_ _ | refine Fine.drew ?_ | refine Fine.drewN ?_ _ | refine Fine.trans ?_ (by assumption) | (refine Fine.kept ?_ (by assumption) (by intro x hx; first | omega | (simp; omega))) | (refine Fine.setCell ?_ (by first | assumption | (simp; done) | (simp; omega)) _)))⟩
  · have HN : Hid (nextOf L m = nextIn (flowI L) (addrs (ownB L) 4) (addrs (othB L) 4)) := by show _ = _; unfold nextOf; rw [if_neg hl]
    rw [HN.out]
    have ho1 : ∀ x, x ∈ addrs (ownB L) 4 ↔ _ := fun x => addrs_mem
    have ho2 : ∀ x, x ∈ addrs (othB L) 4 ↔ _ := fun x => addrs_mem
    have hz1 := addrs_le (ownB L) 4
    have hz2 := addrs_le (othB L) 4
    generalize hxs : addrs (ownB L) 4 = xs at ho1 hz1 ⊢
    generalize hys : addrs (othB L) 4 = ys at ho2 hz2 ⊢
    have HX := Lib.hid hxs
    have HY := Lib.hid hys
    have HO1 : Hid (∀ x ∈ xs, ∃ i : Nat, x = (i : Int) ∧ i < 4) := by intro x hx; obtain ⟨i, h1, h2, _⟩ := (ho1 x).1 hx; exact ⟨i, h2, h1⟩
    have HO2 : Hid (∀ x ∈ ys, ∃ i : Nat, x = (i : Int) ∧ i < 4) := by intro x hx; obtain ⟨i, h1, h2, _⟩ := (ho2 x).1 hx; exact ⟨i, h2, h1⟩
    clear hxs hys ho1 ho2
    go_enter Try.func11, Try.ntmps11
    go_wp2_with fail
    have f0 : Fine w (w.alloc (.cells #[.int .i64 0, .int .i64 0] 31)) := (by repeat (first | exact Fine.refl _ | assumption | refine Fine.alloc ?_ _ | refine Fine.drew ?_ | refine Fine.drewN ?_ _ | refine Fine.trans ?_ (by assumption) | (refine Fine.kept ?_ (by assumption) (by intro x hx; first | omega | (simp; omega))) | (refine Fine.setCell ?_ (by first | assumption | (simp; done) | (simp; omega)) _)))
    have d3 : (w.alloc (.cells #[.int .i64 0, .int .i64 0] 31)).cell? ⟨g, 24, none⟩ = some (.int .i64 m) := (f0.cell (p := ⟨g, _, none⟩) hlt).trans c3
    go_region_held3 (fun w' => w'.cell? ⟨g, 24, none⟩ = some (.int .i64 m)) (first | exact d3 | exact (f3.cell (p := ⟨g, 24, none⟩) (Nat.lt_of_lt_of_le hlt f0.size)).trans d3)
      (first | (go_at_call 13; refine (pairs_any g L m _ ?_).mono ?_; (exact H.out.fine (by repeat (first | exact Fine.refl _ | assumption | refine Fine.alloc ?_ _ | refine Fine.drew ?_ | refine Fine.drewN ?_ _ | refine Fine.trans ?_ (by assumption) | (refine Fine.kept ?_ (by assumption) (by intro x hx; first | omega | (simp; omega))) | (refine Fine.setCell ?_ (by first | assumption | (simp; done) | (simp; omega)) _)))); rintro e w3 ⟨A3, c3, rfl, ho3, f3⟩))
    have f03 : Fine w w3 := f0.trans f3.of_drew
    have hB : Blk w3 w.heap.size 31 #[.int .i64 0, .int .i64 0] := (Blk.new w 31 #[.int .i64 0, .int .i64 0]).fine f3.of_drew
    have HB := Lib.hid hB; clear hB ho3 f3 d3 f0
    go_wp2_with fail
    refine (own_any g L m _ (H.out.fine f03)).mono ?_; rintro e w4 ⟨A4, c4, rfl, ho4, f4⟩
    rw [HX.out] at ho4 ⊢
    have h4m := ho4.rs.1.max
    have h4l := ho4.rs.1.le
    unfold maxLen at h4m
    have HO4 := Lib.hid ho4.rs.1; clear ho4
    go_wp2_with fail
    go_loopw [24] (fun i wr => ∃ k : Nat, k ≤ xs.length ∧ i = .int .i64 k ∧ nextIn (flowI L) xs ys = nextIn (flowI L) (xs.drop k) ys ∧ Fine w4 wr) (fun i _ => xs.length - (intOf i).toNat)
    case atStart => exact ⟨0, Nat.zero_le _, rfl, rfl, (by repeat (first | exact Fine.refl _ | assumption | refine Fine.alloc ?_ _ | refine Fine.drew ?_ | refine Fine.drewN ?_ _ | refine Fine.trans ?_ (by assumption) | (refine Fine.kept ?_ (by assumption) (by intro x hx; first | omega | (simp; omega))) | (refine Fine.setCell ?_ (by first | assumption | (simp; done) | (simp; omega)) _)))⟩
    case round =>
      obtain ⟨k, hk, rfl, hn0, hf⟩ := hrel
      obtain ⟨wo, rfl⟩ : ∃ wo : World, wo = wr := ⟨_, rfl⟩
      have HNK := Lib.hid hn0; clear hn0
      by_cases hlk : k < xs.length
      · obtain ⟨a, ha, ha4⟩ := HO1.out _ (getD_mem xs k hlk)
        obtain ⟨b4, o4, rfl, hb4, e4⟩ := (HO4.out.fine hf).atI hlk
        rw [ha] at e4
        have HA := Lib.hid ha; clear ha
        have f0o : Fine w wo := (by repeat (first | exact Fine.refl _ | assumption | refine Fine.alloc ?_ _ | refine Fine.drew ?_ | refine Fine.drewN ?_ _ | refine Fine.trans ?_ (by assumption) | (refine Fine.kept ?_ (by assumption) (by intro x hx; first | omega | (simp; omega))) | (refine Fine.setCell ?_ (by first | assumption | (simp; done) | (simp; omega)) _)))
        go_wp2_with fail
        refine (other_any g L m _ (H.out.fine f0o)).mono ?_; rintro e w5 ⟨A5, c5, rfl, ho5, f5⟩
        rw [HY.out] at ho5 ⊢
        have h5m := ho5.rs.1.max
        have h5l := ho5.rs.1.le
        unfold maxLen at h5m
        have HO5 := Lib.hid ho5.rs.1; clear ho5
        go_wp2_with fail
        go_loopw [31] (fun i wr => ∃ j : Nat, j ≤ ys.length ∧ i = .int .i64 j ∧ ys.find? (fun b => !flowI L (xs.getD k 0) b) = (ys.drop j).find? (fun b => !flowI L (xs.getD k 0) b) ∧ Fine w5 wr) (fun i _ => ys.length - (intOf i).toNat)
        case atStart => exact ⟨0, Nat.zero_le _, rfl, rfl, (by repeat (first | exact Fine.refl _ | assumption | refine Fine.alloc ?_ _ | refine Fine.drew ?_ | refine Fine.drewN ?_ _ | refine Fine.trans ?_ (by assumption) | (refine Fine.kept ?_ (by assumption) (by intro x hx; first | omega | (simp; omega))) | (refine Fine.setCell ?_ (by first | assumption | (simp; done) | (simp; omega)) _)))⟩
        case round =>
          obtain ⟨j, hj, rfl, hn1, hf1⟩ := hrel
          have HNJ := Lib.hid hn1; clear hn1
          have f0r : Fine w wr := (by repeat (first | exact Fine.refl _ | assumption | refine Fine.alloc ?_ _ | refine Fine.drew ?_ | refine Fine.drewN ?_ _ | refine Fine.trans ?_ (by assumption) | (refine Fine.kept ?_ (by assumption) (by intro x hx; first | omega | (simp; omega))) | (refine Fine.setCell ?_ (by first | assumption | (simp; done) | (simp; omega)) _)))
          by_cases hlj : j < ys.length
          · obtain ⟨b, hb, hb4'⟩ := HO2.out _ (getD_mem ys j hlj)
            obtain ⟨b5, o5, rfl, hb5, e5⟩ := (HO5.out.fine hf1).atI hlj
            rw [hb] at e5
            have cf := (H.out.fine f0r).cell (i := 8 + a * 4 + b) (by omega)
            cases hfl : L.getD (8 + a * 4 + b) false
            · rw [hfl] at cf
              have hres : Hid (nextIn (flowI L) xs ys = some ((a : Int), (b : Int))) := by
                show _ = _
                rw [HNK.out, ← HA.out, ← hb]
                exact nextIn_hit _ hlk (HNJ.out.trans (find_hit hlj (by rw [HA.out, hb, flowI_at, hfl]; rfl)))
              clear hb
              have hB : Blk wr w.heap.size 31 #[.int .i64 0, .int .i64 0] := HB.out.fine (((f4.trans hf).trans f5).trans hf1)
              have b0 : wr.cell? ⟨w.heap.size, 0, none⟩ = some (.int .i64 0) := hB.cell 0
              have b1 : wr.cell? ⟨w.heap.size, 1, none⟩ = some (.int .i64 0) := hB.cell 1
              have r0 := hB.frozen 0
              have r1 := hB.frozen 1
              have HB' := Lib.hid hB; clear hB
              have HFL := Lib.hid hfl; clear hfl
              go_wp2_with fail
              exact bodyPost_ret (v := .tuple #[.agg #[.int .i64 a, .int .i64 b], .bool true]) (by simp [results, Try.results11, go_sem, b0, b1]) rfl ⟨by rw [hres.out]; rfl, (by repeat (first | exact Fine.refl _ | assumption | refine Fine.alloc ?_ _ | refine Fine.drew ?_ | refine Fine.drewN ?_ _ | refine Fine.trans ?_ (by assumption) | (refine Fine.kept ?_ (by assumption) (by intro x hx; first | omega | (simp; omega))) | (refine Fine.setCell ?_ (by first | assumption | (simp; done) | (simp; omega)) _)))⟩
            · rw [hfl] at cf
              have hst : Hid ((ys.drop j).find? (fun b => !flowI L (xs.getD k 0) b) = (ys.drop (j + 1)).find? (fun b => !flowI L (xs.getD k 0) b)) := find_miss hlj (by rw [HA.out, hb, flowI_at, hfl]; rfl)
              clear hb
              have HFL := Lib.hid hfl; clear hfl
              go_wp2_with fail
              go_roundw
              case rel => exact ⟨j + 1, by omega, by go_num, HNJ.out.trans hst.out, hf1⟩
              case measure => simp [intOf]; omega
          · have hend : Hid (ys.find? (fun b => !flowI L (xs.getD k 0) b) = none) := by show _ = _; rw [HNJ.out, List.drop_eq_nil_of_le (by omega)]; rfl
            have hst : Hid (nextIn (flowI L) xs ys = nextIn (flowI L) (xs.drop (k + 1)) ys) := HNK.out.trans (nextIn_miss _ hlk hend.out)
            go_wp2_with fail
            go_roundw
            case rel => exact ⟨k + 1, by omega, by go_num, hst.out, (hf.trans f5).trans hf1⟩
            case measure => simp [intOf]; omega
      · have hend : Hid (nextIn (flowI L) xs ys = none) := by show _ = _; rw [HNK.out]; exact nextIn_end _ _ _ (by omega)
        have hB : Blk wo w.heap.size 31 #[.int .i64 0, .int .i64 0] := HB.out.fine (by repeat (first | exact Fine.refl _ | assumption | refine Fine.alloc ?_ _ | refine Fine.drew ?_ | refine Fine.drewN ?_ _ | refine Fine.trans ?_ (by assumption) | (refine Fine.kept ?_ (by assumption) (by intro x hx; first | omega | (simp; omega))) | (refine Fine.setCell ?_ (by first | assumption | (simp; done) | (simp; omega)) _)))
        have b0 : wo.cell? ⟨w.heap.size, 0, none⟩ = some (.int .i64 0) := hB.cell 0
        have b1 : wo.cell? ⟨w.heap.size, 1, none⟩ = some (.int .i64 0) := hB.cell 1
        have r0 := hB.frozen 0
        have r1 := hB.frozen 1
        have HB' := Lib.hid hB; clear hB
        have fo : Fine w wo := (by repeat (first | exact Fine.refl _ | assumption | refine Fine.alloc ?_ _ | refine Fine.drew ?_ | refine Fine.drewN ?_ _ | refine Fine.trans ?_ (by assumption) | (refine Fine.kept ?_ (by assumption) (by intro x hx; first | omega | (simp; omega))) | (refine Fine.setCell ?_ (by first | assumption | (simp; done) | (simp; omega)) _)))
        go_wp2_with fail
        exact bodyPost_ret (v := .tuple #[.agg #[.int .i64 0, .int .i64 0], .bool false]) (by simp [results, Try.results11, go_sem, b0, b1]) rfl ⟨by rw [hend.out]; rfl, (by repeat (first | exact Fine.refl _ | assumption | refine Fine.alloc ?_ _ | refine Fine.drew ?_ | refine Fine.drewN ?_ _ | refine Fine.trans ?_ (by assumption) | (refine Fine.kept ?_ (by assumption) (by intro x hx; first | omega | (simp; omega))) | (refine Fine.setCell ?_ (by first | assumption | (simp; done) | (simp; omega)) _)))⟩
end Go.Proofs.Ytbgdcpecpcmjdaa
