/- Contracts of the document's Next, and of the law's 'pairs'. -/
import Derived.Test.YtbgdcpecpcmjdaaPath13
namespace Go.Proofs.Ytbgdcpecpcmjdaa
open Go.ChangeShapes Go.WideShapes Go.ChangeAt Go.RowKit
set_option linter.unusedVariables false

def foundV : Option (Int × Int) → Value
  | none => .agg #[.int .i64 0, .int .i64 0, .bool false]
  | some (x, y) => .agg #[.int .i64 x, .int .i64 y, .bool true]

set_option maxHeartbeats 2000000 in
theorem refnext_any (g : Nat) (v : Nat → Prop) (L : List Bool) (m : Int) (w : World) (h : RefL w g v L m) :
    Calls Try.prog 27 #[.pointer (some ⟨g, 0, none⟩)] w fun e w' => e = .returned (foundV (nextOf L m)) ∧ Fine w w' := by
  obtain ⟨hL, Ls, hm, hb⟩ := h
  have hml := hm.len
  have hms := hm.small
  have hflow : ∀ a b : Nat, a < 4 → b < 4 → decide (((a : Int), (b : Int)) ∈ Ls) = flowI L a b := fun a b ha hb => by
    rw [hm.flow, mayI_of ha, mayI_of hb]; rfl
  have HF := Lib.hid hflow; have HM := Lib.hid hm; have HB := Lib.hid hb
  clear hflow hm
  obtain ⟨A1, c1, A2, c2, A3, c3, hb0, h1, h2, h3, hg, s1, s2, s3⟩ := hb
  have hlt := hb0.lt
  have H1 := Lib.hid h1; have H2 := Lib.hid h2; have H3 := Lib.hid h3; have HB0 := Lib.hid hb0
  have h1m := h1.max
  have h1l := h1.le
  have h2m := h2.max
  have h2l := h2.le
  unfold maxLen at h1m h2m
  clear hb0 h1 h2 h3 s1 s2 s3 hg
  have f0 : Fine w (w.alloc (.cells #[.int .i64 0, .int .i64 0, .bool false] 56)) := (by repeat (first | exact Fine.refl _ | assumption | refine Fine.alloc ?_ _ | refine Fine.drew ?_ | refine Fine.drewN ?_ _ | refine Fine.trans ?_ (by assumption) | (refine Fine.kept ?_ (by assumption) (by intro x hx; first | omega | (simp; omega))) | (refine Fine.setCell ?_ (by first | assumption | (simp; done) | (simp; omega)) _)))
  have hn0 : Blk (w.alloc (.cells #[.int .i64 0, .int .i64 0, .bool false] 56)) w.heap.size 56 #[.int .i64 0, .int .i64 0, .bool false] := Blk.new _ _ _
  by_cases hl : m ≤ (Ls.length : Int)
  · have HN : Hid (nextOf L m = none) := by show _ = _; unfold nextOf; rw [if_pos (by omega)]
    rw [HN.out]
    go_enter Try.func27, Try.ntmps27
    go_wp2_with fail
    generalize (w.alloc (.cells #[.int .i64 0, .int .i64 0, .bool false] 56)) = w0 at f0 hn0 ⊢
    have hb1 := HB0.out.fine f0
    have d2 : w0.cell? ⟨g, 2, none⟩ = some (.slice A3 Ls.length c3) := hb1.cell 2
    have d3 : w0.cell? ⟨g, 3, none⟩ = some (.int .i64 m) := hb1.cell 3
    have b0 : w0.cell? ⟨w.heap.size, 0, none⟩ = some (.int .i64 0) := hn0.cell 0
    have b1 : w0.cell? ⟨w.heap.size, 1, none⟩ = some (.int .i64 0) := hn0.cell 1
    have b2 : w0.cell? ⟨w.heap.size, 2, none⟩ = some (.bool false) := hn0.cell 2
    have r0 := hn0.frozen 0
    have r1 := hn0.frozen 1
    have r2 := hn0.frozen 2
    have HN0 := Lib.hid hn0; have HB1 := Lib.hid hb1
    clear hn0 hb1
    go_region
    go_wp2
    exact bodyPost_ret (v := .agg #[.int .i64 0, .int .i64 0, .bool false]) (by simp [results, Try.results27, go_sem, b0, b1, b2]) rfl ⟨rfl, (by repeat (first | exact Fine.refl _ | assumption | refine Fine.alloc ?_ _ | refine Fine.drew ?_ | refine Fine.drewN ?_ _ | refine Fine.trans ?_ (by assumption) | (refine Fine.kept ?_ (by assumption) (by intro x hx; first | omega | (simp; omega))) | (refine Fine.setCell ?_ (by first | assumption | (simp; done) | (simp; omega)) _)))⟩
  · have HN : Hid (nextOf L m = nextIn (flowI L) (addrs (ownB L) 4) (addrs (othB L) 4)) := by show _ = _; unfold nextOf; rw [if_neg (by omega)]
    rw [HN.out]
    have ho1 : ∀ x, x ∈ addrs (ownB L) 4 ↔ _ := fun x => addrs_mem
    have ho2 : ∀ x, x ∈ addrs (othB L) 4 ↔ _ := fun x => addrs_mem
    have hz1 := addrs_le (ownB L) 4
    have hz2 := addrs_le (othB L) 4
    generalize hxs : addrs (ownB L) 4 = xs at ho1 hz1 H1 HB0 h1l HB ⊢
    generalize hys : addrs (othB L) 4 = ys at ho2 hz2 H2 HB0 h2l HB ⊢
    have HO1 : Hid (∀ x ∈ xs, ∃ i : Nat, x = (i : Int) ∧ i < 4) := by intro x hx; obtain ⟨i, h1, h2, _⟩ := (ho1 x).1 hx; exact ⟨i, h2, h1⟩
    have HO2 : Hid (∀ x ∈ ys, ∃ i : Nat, x = (i : Int) ∧ i < 4) := by intro x hx; obtain ⟨i, h1, h2, _⟩ := (ho2 x).1 hx; exact ⟨i, h2, h1⟩
    clear hxs hys ho1 ho2 hml HN
    have hl' : (Ls.length : Int) < m := by omega
    clear hl
    go_enter Try.func27, Try.ntmps27
    go_wp2_with fail
    generalize (w.alloc (.cells #[.int .i64 0, .int .i64 0, .bool false] 56)) = w0 at f0 hn0 ⊢
    have hb1 := HB0.out.fine f0
    have d2 : w0.cell? ⟨g, 2, none⟩ = some (.slice A3 Ls.length c3) := hb1.cell 2
    have d3 : w0.cell? ⟨g, 3, none⟩ = some (.int .i64 m) := hb1.cell 3
    have HN0 := Lib.hid hn0; have HB1 := Lib.hid hb1
    clear hn0 hb1
    go_region
    have f1 : Fine w0 w0.drew := (by repeat (first | exact Fine.refl _ | assumption | refine Fine.alloc ?_ _ | refine Fine.drew ?_ | refine Fine.drewN ?_ _ | refine Fine.trans ?_ (by assumption) | (refine Fine.kept ?_ (by assumption) (by intro x hx; first | omega | (simp; omega))) | (refine Fine.setCell ?_ (by first | assumption | (simp; done) | (simp; omega)) _)))
    generalize w0.drew = w1 at f1 ⊢
    clear d2 d3
    go_wp2_with fail
    go_loopw [3] (fun i wr => ∃ k : Nat, k ≤ xs.length ∧ i = .int .i64 k ∧ nextIn (flowI L) xs ys = nextIn (flowI L) (xs.drop k) ys ∧ Fine w1 wr) (fun i _ => xs.length - (intOf i).toNat)
    case atStart => exact ⟨0, Nat.zero_le _, rfl, rfl, (by repeat (first | exact Fine.refl _ | assumption | refine Fine.alloc ?_ _ | refine Fine.drew ?_ | refine Fine.drewN ?_ _ | refine Fine.trans ?_ (by assumption) | (refine Fine.kept ?_ (by assumption) (by intro x hx; first | omega | (simp; omega))) | (refine Fine.setCell ?_ (by first | assumption | (simp; done) | (simp; omega)) _)))⟩
    case round =>
      obtain ⟨k, hk, rfl, hn0, hf⟩ := hrel
      obtain ⟨wo, rfl⟩ : ∃ wo : World, wo = wr := ⟨_, rfl⟩
      have HNK := Lib.hid hn0; clear hn0
      have f0o : Fine w wo := (f0.trans f1).trans hf
      have hbo := HB0.out.fine f0o
      have d0 : wo.cell? ⟨g, 0, none⟩ = some (.slice A1 xs.length c1) := hbo.cell 0
      have HBO := Lib.hid hbo; clear hbo
      by_cases hlk : k < xs.length
      · obtain ⟨a, ha, ha4⟩ := HO1.out _ (getD_mem xs k hlk)
        have HA := Lib.hid ha; clear ha
        go_wp2_with fail
        go_loopw [4] (fun i wr => ∃ j : Nat, j ≤ ys.length ∧ i = .int .i64 j ∧ ys.find? (fun b => !flowI L (xs.getD k 0) b) = (ys.drop j).find? (fun b => !flowI L (xs.getD k 0) b) ∧ Fine wo wr) (fun i _ => ys.length - (intOf i).toNat)
        case atStart => exact ⟨0, Nat.zero_le _, rfl, rfl, (by repeat (first | exact Fine.refl _ | assumption | refine Fine.alloc ?_ _ | refine Fine.drew ?_ | refine Fine.drewN ?_ _ | refine Fine.trans ?_ (by assumption) | (refine Fine.kept ?_ (by assumption) (by intro x hx; first | omega | (simp; omega))) | (refine Fine.setCell ?_ (by first | assumption | (simp; done) | (simp; omega)) _)))⟩
        case round =>
          obtain ⟨j, hj, rfl, hn1, hf1⟩ := hrel
          have HNJ := Lib.hid hn1; clear hn1
          have f0r : Fine w wr := f0o.trans hf1
          have hbr := HB0.out.fine f0r
          have e0 : wr.cell? ⟨g, 0, none⟩ = some (.slice A1 xs.length c1) := hbr.cell 0
          have e1 : wr.cell? ⟨g, 1, none⟩ = some (.slice A2 ys.length c2) := hbr.cell 1
          have HBR := Lib.hid hbr; clear hbr
          by_cases hlj : j < ys.length
          · obtain ⟨b, hb, hb4'⟩ := HO2.out _ (getD_mem ys j hlj)
            obtain ⟨b4, o4, rfl, hb4, e4⟩ := (H1.out.fine f0r).atI hlk
            obtain ⟨b5, o5, rfl, hb5, e5⟩ := (H2.out.fine f0r).atI hlj
            rw [HA.out] at e4
            rw [hb] at e5
            have hfl0 := HF.out a b ha4 hb4'
            have i1 : (k : Int) < (xs.length : Int) := by omega
            have i2 : (j : Int) < (ys.length : Int) := by omega
            have HBR2 := Lib.hid (HB.out.fine f0r)
            cases hfl : flowI L a b
            · rw [hfl] at hfl0
              have hres : Hid (nextIn (flowI L) xs ys = some ((a : Int), (b : Int))) := by
                show _ = _
                rw [HNK.out, ← HA.out, ← hb]
                exact nextIn_hit _ hlk (HNJ.out.trans (find_hit hlj (by rw [HA.out, hb, hfl]; rfl)))
              have HFL := Lib.hid hfl0
              clear hb hfl hfl0
              go_wp2_with fail
              go_quiet ((go_at_call 35; refine Calls.quiet_of_same (v := .bool false) ?_; refine (flow_any g v xs ys Ls m a b hms _ (HBR2.out.fine ((Fine.refl _).drewN _))).mono ?_; rintro e w' ⟨rfl, rfl⟩; exact ⟨by rw [HFL.out], rfl⟩))
              rename_i nq
              have fq : Fine wr (wr.drewN nq) := (by repeat (first | exact Fine.refl _ | assumption | refine Fine.alloc ?_ _ | refine Fine.drew ?_ | refine Fine.drewN ?_ _ | refine Fine.trans ?_ (by assumption) | (refine Fine.kept ?_ (by assumption) (by intro x hx; first | omega | (simp; omega))) | (refine Fine.setCell ?_ (by first | assumption | (simp; done) | (simp; omega)) _)))
              generalize (wr.drewN nq) = wq at fq ⊢
              have f0q : Fine w wq := f0r.trans fq
              have hbq := HB0.out.fine f0q
              have q0 : wq.cell? ⟨g, 0, none⟩ = some (.slice (some ⟨b4, o4, none⟩) xs.length c1) := hbq.cell 0
              have q1 : wq.cell? ⟨g, 1, none⟩ = some (.slice (some ⟨b5, o5, none⟩) ys.length c2) := hbq.cell 1
              have q4 : wq.cell? ⟨b4, o4 + k, none⟩ = some (.int .i64 a) := (fq.cell (p := ⟨b4, o4 + k, none⟩) hb4).trans e4
              have q5 : wq.cell? ⟨b5, o5 + j, none⟩ = some (.int .i64 b) := (fq.cell (p := ⟨b5, o5 + j, none⟩) hb5).trans e5
              have hB := HN0.out.fine (((f1.trans hf).trans hf1).trans fq)
              have b0 : wq.cell? ⟨w.heap.size, 0, none⟩ = some (.int .i64 0) := hB.cell 0
              have b1 : wq.cell? ⟨w.heap.size, 1, none⟩ = some (.int .i64 0) := hB.cell 1
              have b2 : wq.cell? ⟨w.heap.size, 2, none⟩ = some (.bool false) := hB.cell 2
              have r0 := hB.frozen 0
              have r1 := hB.frozen 1
              have r2 := hB.frozen 2
              have HB' := Lib.hid hB; clear hB hbq e0 e1 e4 e5
              go_wp2_with fail
              go_region
              go_wp2
              exact bodyPost_ret (v := .agg #[.int .i64 a, .int .i64 b, .bool true]) (by simp [results, Try.results27, go_sem, b0, b1, b2]) rfl ⟨by rw [hres.out]; rfl, (by repeat (first | exact Fine.refl _ | assumption | refine Fine.alloc ?_ _ | refine Fine.drew ?_ | refine Fine.drewN ?_ _ | refine Fine.trans ?_ (by assumption) | (refine Fine.kept ?_ (by assumption) (by intro x hx; first | omega | (simp; omega))) | (refine Fine.setCell ?_ (by first | assumption | (simp; done) | (simp; omega)) _)))⟩
            · rw [hfl] at hfl0
              have hst : Hid ((ys.drop j).find? (fun b => !flowI L (xs.getD k 0) b) = (ys.drop (j + 1)).find? (fun b => !flowI L (xs.getD k 0) b)) := find_miss hlj (by rw [HA.out, hb, hfl]; rfl)
              have HFL := Lib.hid hfl0
              clear hb hfl hfl0
              go_wp2_with fail
              go_quiet ((go_at_call 35; refine Calls.quiet_of_same (v := .bool true) ?_; refine (flow_any g v xs ys Ls m a b hms _ (HBR2.out.fine ((Fine.refl _).drewN _))).mono ?_; rintro e w' ⟨rfl, rfl⟩; exact ⟨by rw [HFL.out], rfl⟩))
              go_wp2_with fail
              go_roundw
              case rel => exact ⟨j + 1, by omega, by go_num, HNJ.out.trans hst.out, hf1.drewN _⟩
              case measure => simp [intOf]; omega
          · have hend : Hid (ys.find? (fun b => !flowI L (xs.getD k 0) b) = none) := by show _ = _; rw [HNJ.out, List.drop_eq_nil_of_le (by omega)]; rfl
            have hst : Hid (nextIn (flowI L) xs ys = nextIn (flowI L) (xs.drop (k + 1)) ys) := HNK.out.trans (nextIn_miss _ hlk hend.out)
            go_wp2_with fail
            go_roundw
            case rel => exact ⟨k + 1, by omega, by go_num, hst.out, hf.trans hf1⟩
            case measure => simp [intOf]; omega
      · have hend : Hid (nextIn (flowI L) xs ys = none) := by show _ = _; rw [HNK.out]; exact nextIn_end _ _ _ (by omega)
        have hB := HN0.out.fine (f1.trans hf)
        have b0 : wo.cell? ⟨w.heap.size, 0, none⟩ = some (.int .i64 0) := hB.cell 0
        have b1 : wo.cell? ⟨w.heap.size, 1, none⟩ = some (.int .i64 0) := hB.cell 1
        have b2 : wo.cell? ⟨w.heap.size, 2, none⟩ = some (.bool false) := hB.cell 2
        have r0 := hB.frozen 0
        have r1 := hB.frozen 1
        have r2 := hB.frozen 2
        have HB' := Lib.hid hB; clear hB
        go_wp2_with fail
        exact bodyPost_ret (v := .agg #[.int .i64 0, .int .i64 0, .bool false]) (by simp [results, Try.results27, go_sem, b0, b1, b2]) rfl ⟨by rw [hend.out]; rfl, (by repeat (first | exact Fine.refl _ | assumption | refine Fine.alloc ?_ _ | refine Fine.drew ?_ | refine Fine.drewN ?_ _ | refine Fine.trans ?_ (by assumption) | (refine Fine.kept ?_ (by assumption) (by intro x hx; first | omega | (simp; omega))) | (refine Fine.setCell ?_ (by first | assumption | (simp; done) | (simp; omega)) _)))⟩
end Go.Proofs.Ytbgdcpecpcmjdaa
