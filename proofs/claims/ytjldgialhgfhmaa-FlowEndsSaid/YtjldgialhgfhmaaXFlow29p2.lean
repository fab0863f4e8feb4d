/- Two flows: a step, a packet comes, and stays. -/
import Derived.Test.YtjldgialhgfhmaaNl
import Derived.Deep.RegionLaw
import Derived.Deep.Cut
import Derived.Deep.CutBlock
namespace Go.Proofs.Ytjldgialhgfhmaa
set_option linter.unusedVariables false
set_option linter.unusedSimpArgs false
open Go.ChangeShapes Go.WideShapes Go.ChangeAt Go.RowKit Go.Maps
set_option linter.unusedVariables false
set_option linter.unusedSimpArgs false
section
variable {col : Nat → Nat} {w0 w : World} {g : Nat} {P : Pr}
set_option maxHeartbeats 16000000 in
set_option maxRecDepth 100000 in
theorem step_pass2 (h : PrS col w0 w g P) (kind i : Int) (hk : kind = 2) (hi : -9223372036854775808 ≤ i ∧ i ≤ 9223372036854775807) (hF : Fits P kind i) (hw : P.flush.way ≠ []) :
    Calls Try.prog 43 #[.pointer (some ⟨g, 0, none⟩), .agg #[.int .i64 kind, .int .i64 i]] w fun e w' => e = .returned (.tuple #[]) ∧ PrOf col w0 g (P.step kind i) w w' := by
  have HW := Lib.hid hw; have HKD := Lib.hid hk
  clear hw hk
  have HH := Lib.hid h; have HF := Lib.hid hF
  obtain ⟨x3, hx3⟩ : ∃ x, w.heap.size = x := ⟨_, rfl⟩
  have b3 := Blk.newAt (w := w) (t := 79) (cs := #[.int .i64 kind, .int .i64 i]) hx3.symm
  have f3 := (Fine.refl w).alloc (.cells #[.int .i64 kind, .int .i64 i] 79)
  have hc3 : Hid (col x3 = 0) := Lib.hid (by
    obtain ⟨_, _, _, _, _, _, _, _, _, X⟩ := h
    exact Classical.byContradiction fun e => by have := (X.base x3 e).2; omega)
  clear h hF
  go_enter Try.func43, Try.ntmps43
  go_upto_region 1 with fail
  try rw [hx3]
  generalize w.alloc (.cells #[.int .i64 kind, .int .i64 i] 79) = w1 at b3 f3 ⊢
  have B1 := Lib.hid b3; have F1 := Lib.hid f3
  have HX3 : Hid (x3 < w1.heap.size) := Lib.hid b3.lt
  clear b3 f3 hx3
  go_wp2_with fail
  refine (flush_any (HH.out.fine_ F1.out) (fun o ho => HF.out.a.f0.out o ho) (fun o ho => HF.out.a.out1 o ho)).mono ?_
  rintro e w2 ⟨rfl, hr2⟩
  have HR2 := Lib.hid hr2
  obtain ⟨c2, ⟨f0, p1, wA, wc, ks, a0, a1, b0, b1, X⟩, j2, j3⟩ := hr2
  have hc3' : Hid (c2 x3 = 0) := Lib.hid (Classical.byContradiction fun e => (j3 x3 e).elim (fun h => h hc3.out) (fun h => by have := HX3.out; omega))
  have X2 := Lib.hid X; have J2 := Lib.hid j2; have J3 := Lib.hid j3
  have B2 := Lib.hid (B1.out.kept j2 (fun e => e hc3.out))
  obtain ⟨m, hm⟩ : ∃ m, ks.length = m := ⟨_, rfl⟩
  have HM := Lib.hid hm
  have hmb : m ≤ 60 := by
    have h1 := HF.out.b.w
    rw [X.wpl, List.length_map, hm] at h1
    exact h1
  have d0 : w2.cell? ⟨x3, 0, none⟩ = some (.int .i64 kind) := B2.out.cell 0
  have d1 : w2.cell? ⟨x3, 1, none⟩ = some (.int .i64 i) := B2.out.cell 1
  have y2 : w2.cell? ⟨g, 2, none⟩ = some (.slice wA m wc) := by have := X.box.cell 2; rw [hm] at this; exact this
  clear X j2 j3 hm
  go_upto_region 2 with fail
  obtain ⟨iv, hiv⟩ : ∃ z, min (max i 0) ((m : Int) - 1) = z := ⟨_, rfl⟩
  have HIV := Lib.hid hiv
  clear hiv
  go_cut [4] (fun s4 wx => s4 = .int .i64 iv ∧ Hid (Fine w2 wx))
  case first =>
    have em : IntKind.i64.wrap ((m : Int) - 1) = (m : Int) - 1 := IntWalk.i64_in _ (by omega)
    have EI := Lib.hid (ite_min i ((m : Int) - 1))
    go_region_law (fail)
    all_goals
      go_wp2_with fail
      all_goals
        go_meet
        refine ⟨congrArg (Value.int .i64) ?_, Lib.hid (Fine.refl w2).drew⟩
        have hI := HIV.out
        first
        | (rw [EI.out]; exact hI)
        | omega
  case rest =>
  obtain ⟨rfl, HF3⟩ := hcut
  obtain ⟨w3, hw3⟩ : ∃ z, z = wc := ⟨_, rfl⟩
  subst hw3
  clear d0 d1 y2
  have X3 := Lib.hid (X2.out.fine_ HF3.out)
  have J23 := Lib.hid (J2.out.trans (Kept.of_fine HF3.out))
  have B3 := Lib.hid (B2.out.fine HF3.out)
  have HX33 : Hid (x3 < w3.heap.size) := Lib.hid (by have := HX3.out; have := J23.out.size; omega)
  have d0 : w3.cell? ⟨x3, 0, none⟩ = some (.int .i64 kind) := B3.out.cell 0
  have d1 : w3.cell? ⟨x3, 1, none⟩ = some (.int .i64 i) := B3.out.cell 1
  have y2 : w3.cell? ⟨g, 2, none⟩ = some (.slice wA m wc) := by have := X3.out.box.cell 2; rw [HM.out] at this; exact this
  clear X2 J2 B2 HF3 HR2 HX3
  have hk := HKD.out
  subst hk
  clear HKD
  obtain ⟨j, hj⟩ : ∃ j : Nat, iv = j := ⟨iv.toNat, by
    have h1 := HIV.out
    have h2 := HW.out
    have h3 := X3.out.wpl
    have h4 : 0 < m := by
      rcases Nat.eq_zero_or_pos m with h | h
      · have h5 := HM.out
        rw [h] at h5
        rw [h3, List.eq_nil_of_length_eq_zero h5] at h2
        exact absurd rfl h2
      · exact h
    omega⟩
  subst hj
  have hjm : j < m := by
    have h1 := HIV.out
    omega
  have ej : IntKind.i64.wrap ((j : Int) + 1) = (j : Int) + 1 := IntWalk.i64_in _ (by omega)
  obtain ⟨k, hk0⟩ : ∃ k, ks[j]? = some k := ⟨ks[j]'(by have := HM.out; omega), by rw [List.getElem?_eq_getElem]⟩
  have HK0 := Lib.hid hk0
  have HG := Lib.hid (X3.out.dat k (List.mem_of_getElem? hk0))
  obtain ⟨b, off, rfl, hbl, hq⟩ := X3.out.way.rs.1.at_ hk0
  have HPL : Hid (P.flush.way[j]? = some k.pl) := Lib.hid (by rw [X3.out.wpl, List.getElem?_map, HK0.out]; rfl)
  have HJ : Hid (min (max i 0) ((P.flush.way.length : Int) - 1) = (j : Int)) := Lib.hid (by
    have h1 : P.flush.way.length = m := by rw [X3.out.wpl, List.length_map, HM.out]
    rw [h1]; exact HIV.out)
  obtain ⟨tb, src, dst, sp, dp, seq, ack, syn, acks, fin, rst, win, oA, ol, oc, dA, dl, dc, xs⟩ := k
  obtain ⟨tn, htn⟩ : ∃ z, toN tb = z := ⟨_, rfl⟩
  have HTN := Lib.hid htn
  have q0 : w3.cell? ⟨b, off + j * 14, none⟩ = some (.int .i64 tn) := by rw [← htn]; exact hq 0 _ rfl
  have q1 : w3.cell? ⟨b, off + j * 14 + 1, none⟩ = some (.int .i64 src) := by have := hq 1 _ rfl; rw [← Nat.add_assoc] at this; exact this
  have q2 : w3.cell? ⟨b, off + j * 14 + 2, none⟩ = some (.int .i64 dst) := by have := hq 2 _ rfl; rw [← Nat.add_assoc] at this; exact this
  have q3 : w3.cell? ⟨b, off + j * 14 + 3, none⟩ = some (.int .i64 sp) := by have := hq 3 _ rfl; rw [← Nat.add_assoc] at this; exact this
  have q4 : w3.cell? ⟨b, off + j * 14 + 4, none⟩ = some (.int .i64 dp) := by have := hq 4 _ rfl; rw [← Nat.add_assoc] at this; exact this
  have q5 : w3.cell? ⟨b, off + j * 14 + 5, none⟩ = some (.int .u32 seq) := by have := hq 5 _ rfl; rw [← Nat.add_assoc] at this; exact this
  have q6 : w3.cell? ⟨b, off + j * 14 + 6, none⟩ = some (.int .u32 ack) := by have := hq 6 _ rfl; rw [← Nat.add_assoc] at this; exact this
  have q7 : w3.cell? ⟨b, off + j * 14 + 7, none⟩ = some (.bool syn) := by have := hq 7 _ rfl; rw [← Nat.add_assoc] at this; exact this
  have q8 : w3.cell? ⟨b, off + j * 14 + 8, none⟩ = some (.bool acks) := by have := hq 8 _ rfl; rw [← Nat.add_assoc] at this; exact this
  have q9 : w3.cell? ⟨b, off + j * 14 + 9, none⟩ = some (.bool fin) := by have := hq 9 _ rfl; rw [← Nat.add_assoc] at this; exact this
  have q10 : w3.cell? ⟨b, off + j * 14 + 10, none⟩ = some (.bool rst) := by have := hq 10 _ rfl; rw [← Nat.add_assoc] at this; exact this
  have q11 : w3.cell? ⟨b, off + j * 14 + 11, none⟩ = some (.int .i64 win) := by have := hq 11 _ rfl; rw [← Nat.add_assoc] at this; exact this
  have q12 : w3.cell? ⟨b, off + j * 14 + 12, none⟩ = some (.slice oA ol oc) := by have := hq 12 _ rfl; rw [← Nat.add_assoc] at this; exact this
  have q13 : w3.cell? ⟨b, off + j * 14 + 13, none⟩ = some (.slice dA dl dc) := by have := hq 13 _ rfl; rw [← Nat.add_assoc] at this; exact this
  clear htn hq hk0 hbl
  obtain ⟨x5, hx5⟩ : ∃ z, w3.heap.size = z := ⟨_, rfl⟩
  have b5 := Blk.newAt (w := w3) (t := 114) (cs := #[.int .i64 tn, .int .i64 src, .int .i64 dst, .int .i64 sp, .int .i64 dp, .int .u32 seq, .int .u32 ack, .bool syn, .bool acks, .bool fin, .bool rst, .int .i64 win, .slice oA ol oc, .slice dA dl dc]) hx5.symm
  have f5 := (Fine.refl w3).alloc (.cells #[.int .i64 tn, .int .i64 src, .int .i64 dst, .int .i64 sp, .int .i64 dp, .int .u32 seq, .int .u32 ack, .bool syn, .bool acks, .bool fin, .bool rst, .int .i64 win, .slice oA ol oc, .slice dA dl dc] 114)
  have hc5 : Hid (c2 x5 = 0) := Lib.hid (Classical.byContradiction fun e => by have := (X3.out.base x5 e).2; omega)
  have e50 : (w3.alloc (.cells #[.int .i64 tn, .int .i64 src, .int .i64 dst, .int .i64 sp, .int .i64 dp, .int .u32 seq, .int .u32 ack, .bool syn, .bool acks, .bool fin, .bool rst, .int .i64 win, .slice oA ol oc, .slice dA dl dc] 114)).cell? ⟨x3, 0, none⟩ = some (.int .i64 2) := (B3.out.fine f5).cell 0
  go_upto_region 7 with fail
  try rw [hx5]
  generalize w3.alloc (.cells #[.int .i64 tn, .int .i64 src, .int .i64 dst, .int .i64 sp, .int .i64 dp, .int .u32 seq, .int .u32 ack, .bool syn, .bool acks, .bool fin, .bool rst, .int .i64 win, .slice oA ol oc, .slice dA dl dc] 114) = w5 at b5 f5 e50 ⊢
  have B5 := Lib.hid b5; have F5 := Lib.hid f5
  have X5 := Lib.hid (X3.out.fine_ f5); have HG5 := Lib.hid (HG.out.fine f5); have B35 := Lib.hid (B3.out.fine f5)
  have J25 := Lib.hid (J23.out.trans (Kept.of_fine f5))
  have HX35 : Hid (x3 < w5.heap.size) := Lib.hid B35.out.lt
  have HX55 : Hid (x5 < w5.heap.size) := Lib.hid b5.lt
  clear d0 d1 y2 b5 f5 B3 HX33 hx5 q0 q1 q2 q3 q4 q5 q6 q7 q8 q9 q10 q11 q12 q13 X3 HG J23
  obtain ⟨w6, hw6⟩ : ∃ z, z = w5 := ⟨_, rfl⟩
  have d0 : w5.cell? ⟨x3, 0, none⟩ = some (.int .i64 2) := B35.out.cell 0
  have v0 : w5.cell? ⟨x5, 0, none⟩ = some (.int .i64 tn) := B5.out.cell 0
  have v1 : w5.cell? ⟨x5, 1, none⟩ = some (.int .i64 src) := B5.out.cell 1
  have v2 : w5.cell? ⟨x5, 2, none⟩ = some (.int .i64 dst) := B5.out.cell 2
  have v3 : w5.cell? ⟨x5, 3, none⟩ = some (.int .i64 sp) := B5.out.cell 3
  have v4 : w5.cell? ⟨x5, 4, none⟩ = some (.int .i64 dp) := B5.out.cell 4
  have v5 : w5.cell? ⟨x5, 5, none⟩ = some (.int .u32 seq) := B5.out.cell 5
  have v6 : w5.cell? ⟨x5, 6, none⟩ = some (.int .u32 ack) := B5.out.cell 6
  have v7 : w5.cell? ⟨x5, 7, none⟩ = some (.bool syn) := B5.out.cell 7
  have v8 : w5.cell? ⟨x5, 8, none⟩ = some (.bool acks) := B5.out.cell 8
  have v9 : w5.cell? ⟨x5, 9, none⟩ = some (.bool fin) := B5.out.cell 9
  have v10 : w5.cell? ⟨x5, 10, none⟩ = some (.bool rst) := B5.out.cell 10
  have v11 : w5.cell? ⟨x5, 11, none⟩ = some (.int .i64 win) := B5.out.cell 11
  have v12 : w5.cell? ⟨x5, 12, none⟩ = some (.slice oA ol oc) := B5.out.cell 12
  have v13 : w5.cell? ⟨x5, 13, none⟩ = some (.slice dA dl dc) := B5.out.cell 13
  have HCC : Hid (Calls Try.prog 70 #[.pointer (some ⟨g, 0, none⟩), .agg #[.int .i64 tn, .int .i64 src, .int .i64 dst, .int .i64 sp, .int .i64 dp, .int .u32 seq, .int .u32 ack, .bool syn, .bool acks, .bool fin, .bool rst, .int .i64 win, .slice oA ol oc, .slice dA dl dc]] w5 fun e w' => e = .returned (.tuple #[]) ∧ PrOf c2 w0 g (P.flush.comes (tb, (⟨src, dst, sp, dp, seq, ack, syn, acks, fin, rst, win, oA, ol, oc, dA, dl, dc, xs⟩ : Sg).sm)) w5 w') := Lib.hid (by
    have := comes_any X5.out HF.out.b ⟨tb, (⟨src, dst, sp, dp, seq, ack, syn, acks, fin, rst, win, oA, ol, oc, dA, dl, dc, xs⟩ : Sg)⟩ HG5.out
    rw [← HTN.out]
    exact this)
  have HACT : Hid (P.flush.act 2 i = P.flush.comes (tb, (⟨src, dst, sp, dp, seq, ack, syn, acks, fin, rst, win, oA, ol, oc, dA, dl, dc, xs⟩ : Sg).sm)) := Lib.hid (act_pass (by decide) HJ.out HPL.out)
  clear X5 HG5 hw6
  go_wp2_with fail
  refine HCC.out.mono ?_
  rintro e w7 ⟨rfl, h7⟩
  have HZ := Lib.hid (PrOf.after J25.out J3.out h7)
  rw [← HACT.out] at HZ
  clear h7 HCC HACT d0 e50 B5 B35 v0 v1 v2 v3 v4 v5 v6 v7 v8 v9 v10 v11 v12 v13
  obtain ⟨c7, hS7, k7, l7⟩ := HZ.out
  have HS7 := Lib.hid hS7; have K7 := Lib.hid k7; have L7 := Lib.hid l7
  clear hS7 k7 l7
  go_wp2_with fail
  refine (flush_any HS7.out (fun o ho => HF.out.c.f0.out o ho) (fun o ho => HF.out.c.out1 o ho)).mono ?_
  rintro e wZ ⟨rfl, hZ⟩
  have HZZ := Lib.hid (PrOf.made (PrOf.after K7.out L7.out hZ) F1.out)
  clear hZ
  go_wp2_with fail
  exact bodyPost_end (v := .tuple #[]) (by simp [results, Try.results43, go_sem]) rfl ⟨rfl, HZZ.out⟩
end
end Go.Proofs.Ytjldgialhgfhmaa
