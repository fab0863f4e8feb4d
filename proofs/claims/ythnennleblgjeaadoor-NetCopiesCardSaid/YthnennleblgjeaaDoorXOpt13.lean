/- The laws of option: Get. (Printed by gen13.py.) -/
import Derived.Test.YthnennleblgjeaaDoorMg
namespace Go.Proofs.YthnennleblgjeaaDoor
set_option linter.unusedVariables false
set_option linter.unusedSimpArgs false
open Go.ChangeShapes Go.WideShapes Go.ChangeAt Go.RowKit
set_option linter.unusedVariables false
attribute [local go_sem ↓ high] eq56b
theorem Kept.setB {a w' : World} {b i : Nat} {u : Value} (h : Kept (fun x => x = b) a w') : Kept (fun x => x = b) a (w'.setCell ⟨b, i, none⟩ u) := h.setIn (p := ⟨b, i, none⟩) rfl u
theorem opt_stored {w' : World} {x2 : Nat} {U V : Nat → Int} (h : Blk w' x2 69 (optL U).toArray) : Blk ((((((((((((((w'.setCell ⟨x2, 0, none⟩ (.int .i64 (V 0))).setCell ⟨x2, 1, none⟩ (.int .u64 (V 1))).setCell ⟨x2, 2, none⟩ (.int .u64 (V 2))).setCell ⟨x2, 3, none⟩ (.int .u32 (V 3))).setCell ⟨x2, 4, none⟩ (.int .u32 (V 4))).setCell ⟨x2, 5, none⟩ (.int .i64 (V 5))).setCell ⟨x2, 6, none⟩ (.int .i64 (V 6))).setCell ⟨x2, 7, none⟩ (.bool (decide (V 7 = 1)))).setCell ⟨x2, 8, none⟩ (.bool (decide (V 8 = 1)))).setCell ⟨x2, 9, none⟩ (.int .i64 (V 9))).setCell ⟨x2, 10, none⟩ (.bool (decide (V 10 = 1)))).setCell ⟨x2, 11, none⟩ (.int .i64 (V 11))).setCell ⟨x2, 12, none⟩ (.int .i64 (V 12))).setCell ⟨x2, 13, none⟩ (.bool (decide (V 13 = 1)))) x2 69 (optL V).toArray := by
  have h0 := h.set_ 0 (.int .i64 (V 0))
  have h1 := h0.set_ 1 (.int .u64 (V 1))
  have h2 := h1.set_ 2 (.int .u64 (V 2))
  have h3 := h2.set_ 3 (.int .u32 (V 3))
  have h4 := h3.set_ 4 (.int .u32 (V 4))
  have h5 := h4.set_ 5 (.int .i64 (V 5))
  have h6 := h5.set_ 6 (.int .i64 (V 6))
  have h7 := h6.set_ 7 (.bool (decide (V 7 = 1)))
  have h8 := h7.set_ 8 (.bool (decide (V 8 = 1)))
  have h9 := h8.set_ 9 (.int .i64 (V 9))
  have h10 := h9.set_ 10 (.bool (decide (V 10 = 1)))
  have h11 := h10.set_ 11 (.int .i64 (V 11))
  have h12 := h11.set_ 12 (.int .i64 (V 12))
  have h13 := h12.set_ 13 (.bool (decide (V 13 = 1)))
  exact h13.cast (by simp)
theorem opt_stored_kept (w' : World) (x2 : Nat) (V : Nat → Int) : Kept (fun x => x = x2) w' ((((((((((((((w'.setCell ⟨x2, 0, none⟩ (.int .i64 (V 0))).setCell ⟨x2, 1, none⟩ (.int .u64 (V 1))).setCell ⟨x2, 2, none⟩ (.int .u64 (V 2))).setCell ⟨x2, 3, none⟩ (.int .u32 (V 3))).setCell ⟨x2, 4, none⟩ (.int .u32 (V 4))).setCell ⟨x2, 5, none⟩ (.int .i64 (V 5))).setCell ⟨x2, 6, none⟩ (.int .i64 (V 6))).setCell ⟨x2, 7, none⟩ (.bool (decide (V 7 = 1)))).setCell ⟨x2, 8, none⟩ (.bool (decide (V 8 = 1)))).setCell ⟨x2, 9, none⟩ (.int .i64 (V 9))).setCell ⟨x2, 10, none⟩ (.bool (decide (V 10 = 1)))).setCell ⟨x2, 11, none⟩ (.int .i64 (V 11))).setCell ⟨x2, 12, none⟩ (.int .i64 (V 12))).setCell ⟨x2, 13, none⟩ (.bool (decide (V 13 = 1)))) := by
  have h0 := (Kept.refl (fun x => x = x2) w').setIn (p := ⟨x2, 0, none⟩) rfl (.int .i64 (V 0))
  have h1 := (h0).setIn (p := ⟨x2, 1, none⟩) rfl (.int .u64 (V 1))
  have h2 := (h1).setIn (p := ⟨x2, 2, none⟩) rfl (.int .u64 (V 2))
  have h3 := (h2).setIn (p := ⟨x2, 3, none⟩) rfl (.int .u32 (V 3))
  have h4 := (h3).setIn (p := ⟨x2, 4, none⟩) rfl (.int .u32 (V 4))
  have h5 := (h4).setIn (p := ⟨x2, 5, none⟩) rfl (.int .i64 (V 5))
  have h6 := (h5).setIn (p := ⟨x2, 6, none⟩) rfl (.int .i64 (V 6))
  have h7 := (h6).setIn (p := ⟨x2, 7, none⟩) rfl (.bool (decide (V 7 = 1)))
  have h8 := (h7).setIn (p := ⟨x2, 8, none⟩) rfl (.bool (decide (V 8 = 1)))
  have h9 := (h8).setIn (p := ⟨x2, 9, none⟩) rfl (.int .i64 (V 9))
  have h10 := (h9).setIn (p := ⟨x2, 10, none⟩) rfl (.bool (decide (V 10 = 1)))
  have h11 := (h10).setIn (p := ⟨x2, 11, none⟩) rfl (.int .i64 (V 11))
  have h12 := (h11).setIn (p := ⟨x2, 12, none⟩) rfl (.int .i64 (V 12))
  have h13 := (h12).setIn (p := ⟨x2, 13, none⟩) rfl (.bool (decide (V 13 = 1)))
  exact h13
set_option maxHeartbeats 4000000 in
set_option maxRecDepth 100000 in
theorem get_any (A : Option Addr) (c : Nat) (xs : List Int) (hl : xs.length ≤ 10000000) (w : World) (h : BS w A c xs) : Calls Tryd.prog 43 #[.slice A xs.length c] w (GetOf xs w) := by
  have H := Lib.hid h; clear h
  have w1e : width 1 = 1 := by decide
  go_enter Tryd.func43, Tryd.ntmps43
  go_wp2_with fail
  have b2 : Blk (w.alloc (.cells #[.int .i64 0, .int .u64 0, .int .u64 0, .int .u32 0, .int .u32 0, .int .i64 0, .int .i64 0, .bool false, .bool false, .int .i64 0, .bool false, .int .i64 0, .int .i64 0, .bool false] 69)) w.heap.size 69 (optL zeroV).toArray := Blk.new w 69 _
  have f1 : Fine w (w.alloc (.cells #[.int .i64 0, .int .u64 0, .int .u64 0, .int .u32 0, .int .u32 0, .int .i64 0, .int .i64 0, .bool false, .bool false, .int .i64 0, .bool false, .int .i64 0, .int .i64 0, .bool false] 69)) := (Fine.refl w).alloc _
  obtain ⟨x2, hx2⟩ : ∃ x2, w.heap.size = x2 := ⟨_, rfl⟩
  generalize (w.alloc (.cells #[.int .i64 0, .int .u64 0, .int .u64 0, .int .u32 0, .int .u32 0, .int .i64 0, .int .i64 0, .bool false, .bool false, .int .i64 0, .bool false, .int .i64 0, .int .i64 0, .bool false] 69)) = w1 at b2 f1 ⊢
  rw [hx2] at b2 ⊢
  have hwx : w.heap.size ≤ x2 := Nat.le_of_eq hx2
  clear hx2
  by_cases h0 : xs.length < 1
  · have hg : getR xs = (zeroV, [], 3) := by
      have : xs = [] := List.eq_nil_of_length_eq_zero (by omega)
      subst this; rfl
    have HG := Lib.hid hg; clear hg
    refine (take_short A c xs.length 1 (by rw [w1e]; exact h0) w1).mono ?_
    rintro x w2 ⟨rfl, f2⟩
    have b2' := b2.fine f2
    have f02 := f1.trans f2
    have z0 : w2.cell? ⟨x2, 0, none⟩ = some (.int .i64 0) := b2'.cell 0
    have z1 : w2.cell? ⟨x2, 1, none⟩ = some (.int .u64 0) := b2'.cell 1
    have z2 : w2.cell? ⟨x2, 2, none⟩ = some (.int .u64 0) := b2'.cell 2
    have z3 : w2.cell? ⟨x2, 3, none⟩ = some (.int .u32 0) := b2'.cell 3
    have z4 : w2.cell? ⟨x2, 4, none⟩ = some (.int .u32 0) := b2'.cell 4
    have z5 : w2.cell? ⟨x2, 5, none⟩ = some (.int .i64 0) := b2'.cell 5
    have z6 : w2.cell? ⟨x2, 6, none⟩ = some (.int .i64 0) := b2'.cell 6
    have z7 : w2.cell? ⟨x2, 7, none⟩ = some (.bool false) := b2'.cell 7
    have z8 : w2.cell? ⟨x2, 8, none⟩ = some (.bool false) := b2'.cell 8
    have z9 : w2.cell? ⟨x2, 9, none⟩ = some (.int .i64 0) := b2'.cell 9
    have z10 : w2.cell? ⟨x2, 10, none⟩ = some (.bool false) := b2'.cell 10
    have z11 : w2.cell? ⟨x2, 11, none⟩ = some (.int .i64 0) := b2'.cell 11
    have z12 : w2.cell? ⟨x2, 12, none⟩ = some (.int .i64 0) := b2'.cell 12
    have z13 : w2.cell? ⟨x2, 13, none⟩ = some (.bool false) := b2'.cell 13
    have y0 : w2.frozen? ⟨x2, 0, none⟩ = false := b2'.frozen 0
    have y1 : w2.frozen? ⟨x2, 1, none⟩ = false := b2'.frozen 1
    have y2 : w2.frozen? ⟨x2, 2, none⟩ = false := b2'.frozen 2
    have y3 : w2.frozen? ⟨x2, 3, none⟩ = false := b2'.frozen 3
    have y4 : w2.frozen? ⟨x2, 4, none⟩ = false := b2'.frozen 4
    have y5 : w2.frozen? ⟨x2, 5, none⟩ = false := b2'.frozen 5
    have y6 : w2.frozen? ⟨x2, 6, none⟩ = false := b2'.frozen 6
    have y7 : w2.frozen? ⟨x2, 7, none⟩ = false := b2'.frozen 7
    have y8 : w2.frozen? ⟨x2, 8, none⟩ = false := b2'.frozen 8
    have y9 : w2.frozen? ⟨x2, 9, none⟩ = false := b2'.frozen 9
    have y10 : w2.frozen? ⟨x2, 10, none⟩ = false := b2'.frozen 10
    have y11 : w2.frozen? ⟨x2, 11, none⟩ = false := b2'.frozen 11
    have y12 : w2.frozen? ⟨x2, 12, none⟩ = false := b2'.frozen 12
    have y13 : w2.frozen? ⟨x2, 13, none⟩ = false := b2'.frozen 13
    go_wp2_with fail
    exact bodyPost_ret (v := .tuple #[.agg (optL zeroV).toArray, .slice none 0 0, .int .i64 3]) (by simp [results, Tryd.results43, go_sem, zeroV, z0, z1, z2, z3, z4, z5, z6, z7, z8, z9, z10, z11, z12, z13]) rfl (GetOf.mk HG.out (OwnB.nil_ _ _) ((((((((((((((f02.setCell hwx _).setCell hwx _).setCell hwx _).setCell hwx _).setCell hwx _).setCell hwx _).setCell hwx _).setCell hwx _).setCell hwx _).setCell hwx _).setCell hwx _).setCell hwx _).setCell hwx _).setCell hwx _))
  · have hne : xs ≠ [] := by rintro rfl; exact h0 (by decide)
    refine (take_any A c xs 1 (by rw [w1e]; omega) (by omega) w1 (H.out.fine f1)).mono ?_
    rintro x w2 ⟨v2, rfl, o2, f2⟩
    rw [w1e] at o2 ⊢
    have hS := getR_short hne
    have hF := fun V r t => getR_form (V := V) (r := r) (t := t) hne
    have hGd := fun V r t => getR_good (V := V) (r := r) (t := t) hne
    have hk := num_bd 1 (xs.take 1) (by rw [List.length_take]; omega) (H.out.bytes.take 1)
    simp only [Int.reducePow] at hk
    obtain ⟨k, hkk⟩ : ∃ k, num (xs.take 1) = k := ⟨_, rfl⟩
    rw [hkk] at hk hS hF hGd ⊢
    have hlen := fieldsOf_len k
    have hok := fieldsOf_ok k
    obtain ⟨F, hFF⟩ : ∃ F, fieldsOf k = F := ⟨_, rfl⟩
    have HP := Lib.hid (fun b w' hc hb => places_any b k w' hc hb)
    rw [hFF] at HP hlen hok hS hF hGd
    have hRl : (xs.drop 1).length ≤ 10000000 := by rw [List.length_drop]; omega
    obtain ⟨R, hR0⟩ : ∃ R, xs.drop 1 = R := ⟨_, rfl⟩
    rw [hR0] at o2 hS hF hGd hRl
    clear hR0
    have HS := Lib.hid hS
    have HF := Lib.hid hF
    have HGd := Lib.hid hGd
    clear hFF hS hF hGd hkk
    obtain ⟨A0, c0, rfl, hb0, _⟩ := o2.form
    have O2 := Lib.hid o2; clear o2 hb0
    have B2 := Lib.hid (b2.fine f2); clear b2
    have f02 := f1.trans f2
    have hx2l := B2.out.lt
    have hk64 : IntKind.i64.wrap k = k := by rw [IntKind.wrap_i64]; omega
    go_wp2_with fail
    have b7 : Blk (w2.alloc (.cells #[.int .i64 k, .int .u64 0, .int .u64 0, .int .u32 0, .int .u32 0, .int .i64 0, .int .i64 0, .bool false, .bool false, .int .i64 0, .bool false, .int .i64 0, .int .i64 0, .bool false] 69)) w2.heap.size 69 (optL (kindV k)).toArray := Blk.new w2 69 _
    have f3 : Fine w2 (w2.alloc (.cells #[.int .i64 k, .int .u64 0, .int .u64 0, .int .u32 0, .int .u32 0, .int .i64 0, .int .i64 0, .bool false, .bool false, .int .i64 0, .bool false, .int .i64 0, .int .i64 0, .bool false] 69)) := (Fine.refl w2).alloc _
    obtain ⟨x7, hx7⟩ : ∃ x7, w2.heap.size = x7 := ⟨_, rfl⟩
    generalize (w2.alloc (.cells #[.int .i64 k, .int .u64 0, .int .u64 0, .int .u32 0, .int .u32 0, .int .i64 0, .int .i64 0, .bool false, .bool false, .int .i64 0, .bool false, .int .i64 0, .int .i64 0, .bool false] 69)) = w3 at b7 f3 ⊢
    rw [hx7] at b7 ⊢
    have hx27 : x2 ≠ x7 := by omega
    have hwx7 : w.heap.size ≤ x7 := by have := f02.size; omega
    refine (HP.out x7 w3 (b7.cell 0) b7.lt).mono ?_
    rintro x w4 ⟨A1, c1, rfl, r4, ty4, f4⟩
    have HI : Hid (GSt w x2 x7 F (kindV k) R A1 c1 0 (.slice A0 R.length c0) (kindV k) R true w4) := Lib.hid ⟨(f02.trans f3).trans f4, (B2.out.fine f3).fine f4, b7.fine f4, kindV_ok hk, r4, ty4, ((O2.out.lower f1.size).fine f3).fine f4, hRl, by rw [List.drop_zero]⟩
    clear b7 r4 ty4 f3 f4 B2 O2 hx2l hx7 HP
    go_wp2_with fail
    go_loopw [27, 0, 8] (fun s27 s0 s8 wr => ∃ (i : Nat) (V : Nat → Int) (rest : List Int) (t : Bool) (A' : Option Addr) (c' : Nat), i ≤ F.length ∧ s27 = .int .i64 i ∧ s0 = .slice A' rest.length c' ∧ s8 = .bool t ∧ Hid (GSt w x2 x7 F (kindV k) R A1 c1 i s0 V rest t wr)) (fun s27 _ _ _ => F.length - (intOf s27).toNat)
    case atStart => exact ⟨0, kindV k, R, true, A0, c0, Nat.zero_le _, rfl, rfl, rfl, HI⟩
    case round =>
      obtain ⟨i, V, rest, t, A', c', hi, rfl, rfl, rfl, hR⟩ := hrel
      by_cases hlt : i < F.length
      · obtain ⟨p, hp0⟩ : ∃ p, F[i]? = some p := ⟨F[i], List.getElem?_eq_getElem hlt⟩
        have hpk := hok p (List.mem_of_getElem? hp0)
        obtain ⟨z0, z1, z2, z3, hz⟩ : ∃ z0 z1 z2 z3, placeL x7 p = [.pointer z0, .pointer z1, .pointer z2, .pointer z3, .int .i64 p.2] := by unfold placeL; split <;> exact ⟨_, _, _, _, rfl⟩
        obtain ⟨bA, oA, rfl, hbA, hcA⟩ := hR.out.2.2.2.2.1.at_ hp0
        have q0 := hcA 0 (.pointer z0) (by show (placeL x7 p)[0]? = _; rw [hz]; rfl)
        have q1 := hcA 1 (.pointer z1) (by show (placeL x7 p)[1]? = _; rw [hz]; rfl)
        have q2 := hcA 2 (.pointer z2) (by show (placeL x7 p)[2]? = _; rw [hz]; rfl)
        have q3 := hcA 3 (.pointer z3) (by show (placeL x7 p)[3]? = _; rw [hz]; rfl)
        have q4 := hcA 4 (.int .i64 p.2) (by show (placeL x7 p)[4]? = _; rw [hz]; rfl)
        clear hcA
        simp only [← Nat.add_assoc, Nat.add_zero] at q0 q1 q2 q3 q4
        go_wp2_with fail
        have b6 : Blk (wr.alloc (.cells #[.pointer z0, .pointer z1, .pointer z2, .pointer z3, .int .i64 p.2] 96)) wr.heap.size 96 #[.pointer z0, .pointer z1, .pointer z2, .pointer z3, .int .i64 p.2] := Blk.new wr 96 _
        have hR5 := Lib.hid (hR.out.fine ((Fine.refl wr).alloc (.cells #[.pointer z0, .pointer z1, .pointer z2, .pointer z3, .int .i64 p.2] 96)))
        clear q0 q1 q2 q3 q4
        obtain ⟨x6, hx6⟩ : ∃ x6, wr.heap.size = x6 := ⟨_, rfl⟩
        generalize (wr.alloc (.cells #[.pointer z0, .pointer z1, .pointer z2, .pointer z3, .int .i64 p.2] 96)) = w5 at hR5 b6 ⊢
        rw [hx6] at b6 ⊢
        clear hR hx6
        have hwd := width_of hpk.2.2.2
        by_cases hsh : rest.length < p.2
        · have HG := Lib.hid (HS.out (hR5.out.short hp0 hsh))
          refine (take_short A' c' rest.length p.2 (by rw [hwd]; exact hsh) w5).mono ?_
          rintro x w6 ⟨rfl, f6⟩
          have B2 := Lib.hid (hR5.out.2.1.fine f6)
          have F6 := hR5.out.1.trans f6
          clear b6 hR5 HI hwd hpk hp0
          have z0 : w6.cell? ⟨x2, 0, none⟩ = some (.int .i64 0) := B2.out.cell 0
          have z1 : w6.cell? ⟨x2, 1, none⟩ = some (.int .u64 0) := B2.out.cell 1
          have z2 : w6.cell? ⟨x2, 2, none⟩ = some (.int .u64 0) := B2.out.cell 2
          have z3 : w6.cell? ⟨x2, 3, none⟩ = some (.int .u32 0) := B2.out.cell 3
          have z4 : w6.cell? ⟨x2, 4, none⟩ = some (.int .u32 0) := B2.out.cell 4
          have z5 : w6.cell? ⟨x2, 5, none⟩ = some (.int .i64 0) := B2.out.cell 5
          have z6 : w6.cell? ⟨x2, 6, none⟩ = some (.int .i64 0) := B2.out.cell 6
          have z7 : w6.cell? ⟨x2, 7, none⟩ = some (.bool false) := B2.out.cell 7
          have z8 : w6.cell? ⟨x2, 8, none⟩ = some (.bool false) := B2.out.cell 8
          have z9 : w6.cell? ⟨x2, 9, none⟩ = some (.int .i64 0) := B2.out.cell 9
          have z10 : w6.cell? ⟨x2, 10, none⟩ = some (.bool false) := B2.out.cell 10
          have z11 : w6.cell? ⟨x2, 11, none⟩ = some (.int .i64 0) := B2.out.cell 11
          have z12 : w6.cell? ⟨x2, 12, none⟩ = some (.int .i64 0) := B2.out.cell 12
          have z13 : w6.cell? ⟨x2, 13, none⟩ = some (.bool false) := B2.out.cell 13
          have y0 : w6.frozen? ⟨x2, 0, none⟩ = false := B2.out.frozen 0
          have y1 : w6.frozen? ⟨x2, 1, none⟩ = false := B2.out.frozen 1
          have y2 : w6.frozen? ⟨x2, 2, none⟩ = false := B2.out.frozen 2
          have y3 : w6.frozen? ⟨x2, 3, none⟩ = false := B2.out.frozen 3
          have y4 : w6.frozen? ⟨x2, 4, none⟩ = false := B2.out.frozen 4
          have y5 : w6.frozen? ⟨x2, 5, none⟩ = false := B2.out.frozen 5
          have y6 : w6.frozen? ⟨x2, 6, none⟩ = false := B2.out.frozen 6
          have y7 : w6.frozen? ⟨x2, 7, none⟩ = false := B2.out.frozen 7
          have y8 : w6.frozen? ⟨x2, 8, none⟩ = false := B2.out.frozen 8
          have y9 : w6.frozen? ⟨x2, 9, none⟩ = false := B2.out.frozen 9
          have y10 : w6.frozen? ⟨x2, 10, none⟩ = false := B2.out.frozen 10
          have y11 : w6.frozen? ⟨x2, 11, none⟩ = false := B2.out.frozen 11
          have y12 : w6.frozen? ⟨x2, 12, none⟩ = false := B2.out.frozen 12
          have y13 : w6.frozen? ⟨x2, 13, none⟩ = false := B2.out.frozen 13
          go_wp2_with fail
          exact bodyPost_ret (v := .tuple #[.agg (optL zeroV).toArray, .slice none 0 0, .int .i64 3]) (by simp [results, Tryd.results43, go_sem, zeroV, z0, z1, z2, z3, z4, z5, z6, z7, z8, z9, z10, z11, z12, z13]) rfl (GetOf.mk HG.out (OwnB.nil_ _ _) ((((((((((((((F6.setCell hwx _).setCell hwx _).setCell hwx _).setCell hwx _).setCell hwx _).setCell hwx _).setCell hwx _).setCell hwx _).setCell hwx _).setCell hwx _).setCell hwx _).setCell hwx _).setCell hwx _).setCell hwx _))
        · have hOB := hR5.out.2.2.2.2.2.2.1.bs.1
          have hrl := hR5.out.2.2.2.2.2.2.2.1
          refine (take_any A' c' rest p.2 (by rw [hwd]; omega) (by omega) w5 hOB).mono ?_
          rintro x w6 ⟨v6, rfl, o6, f6⟩
          rw [hwd] at o6 ⊢
          obtain ⟨A6, c6, rfl, _, _⟩ := o6.form
          have b6' := b6.fine f6
          have j0 : w6.cell? ⟨x6, 0, none⟩ = some (.pointer z0) := b6'.cell 0
          have j1 : w6.cell? ⟨x6, 1, none⟩ = some (.pointer z1) := b6'.cell 1
          have j2 : w6.cell? ⟨x6, 2, none⟩ = some (.pointer z2) := b6'.cell 2
          have j3 : w6.cell? ⟨x6, 3, none⟩ = some (.pointer z3) := b6'.cell 3
          have j4 : w6.cell? ⟨x6, 4, none⟩ = some (.int .i64 p.2) := b6'.cell 4
          have hp8 : p.2 ≤ 8 := by omega
          have hnb := num_lt (rest.take p.2) (by rw [List.length_take]; omega) (hOB.bytes.take _)
          have HSet := set_any x7 p.1 p.2 V (num (rest.take p.2)) hnb hpk.2.1 w6 (hR5.out.2.2.1.fine f6)
          rw [show placeL x7 (p.1, p.2) = _ from hz] at HSet
          have HN := Lib.hid (fun (w'' : World) hb hk => hR5.out.next (w'' := w'') hx27 hwx7 hp0 hp8 hsh f6 o6 hb hk)
          clear b6 b6' hR5 HI hwd hOB o6 hz hp0
          obtain ⟨y, hy⟩ : ∃ y, num (rest.take p.2) = y := ⟨_, rfl⟩
          obtain ⟨R', hR'⟩ : ∃ R', rest.drop p.2 = R' := ⟨_, rfl⟩
          rw [hy] at HSet HN hnb ⊢
          rw [hR'] at HN ⊢
          obtain ⟨q, hq⟩ : ∃ q, setOk (fk p.1) y = q := ⟨_, rfl⟩
          unfold SetOf at HSet
          rw [hq] at HSet HN
          clear hy hR' hq
          go_wp2_with fail
          refine HSet.mono ?_
          rintro x w7 ⟨rfl, hb7, hk7⟩
          have HR7 := Lib.hid (HN.out w7 hb7 hk7)
          clear HN hb7 hk7 HSet j0 j1 j2 j3 j4
          cases q
          · go_wp2_with fail
            exact ⟨⟨i + 1, _, R', false, A6, c6, hlt, by simp, rfl, rfl, HR7⟩, by simp only [intOf]; omega⟩
          · go_wp2_with fail
            exact ⟨⟨i + 1, _, R', t, A6, c6, hlt, by simp, rfl, rfl, HR7⟩, by simp only [intOf]; omega⟩
      · have hie : i = F.length := by omega
        subst hie
        have hT := hR.out.end_
        have HE := Lib.hid hR.out
        clear hR HI
        cases t
        · have HG := Lib.hid (HF.out V rest false hT rfl)
          have B2 := Lib.hid HE.out.2.1
          have fw := HE.out.1
          clear hT
          have z0 : wr.cell? ⟨x2, 0, none⟩ = some (.int .i64 0) := B2.out.cell 0
          have z1 : wr.cell? ⟨x2, 1, none⟩ = some (.int .u64 0) := B2.out.cell 1
          have z2 : wr.cell? ⟨x2, 2, none⟩ = some (.int .u64 0) := B2.out.cell 2
          have z3 : wr.cell? ⟨x2, 3, none⟩ = some (.int .u32 0) := B2.out.cell 3
          have z4 : wr.cell? ⟨x2, 4, none⟩ = some (.int .u32 0) := B2.out.cell 4
          have z5 : wr.cell? ⟨x2, 5, none⟩ = some (.int .i64 0) := B2.out.cell 5
          have z6 : wr.cell? ⟨x2, 6, none⟩ = some (.int .i64 0) := B2.out.cell 6
          have z7 : wr.cell? ⟨x2, 7, none⟩ = some (.bool false) := B2.out.cell 7
          have z8 : wr.cell? ⟨x2, 8, none⟩ = some (.bool false) := B2.out.cell 8
          have z9 : wr.cell? ⟨x2, 9, none⟩ = some (.int .i64 0) := B2.out.cell 9
          have z10 : wr.cell? ⟨x2, 10, none⟩ = some (.bool false) := B2.out.cell 10
          have z11 : wr.cell? ⟨x2, 11, none⟩ = some (.int .i64 0) := B2.out.cell 11
          have z12 : wr.cell? ⟨x2, 12, none⟩ = some (.int .i64 0) := B2.out.cell 12
          have z13 : wr.cell? ⟨x2, 13, none⟩ = some (.bool false) := B2.out.cell 13
          have y0 : wr.frozen? ⟨x2, 0, none⟩ = false := B2.out.frozen 0
          have y1 : wr.frozen? ⟨x2, 1, none⟩ = false := B2.out.frozen 1
          have y2 : wr.frozen? ⟨x2, 2, none⟩ = false := B2.out.frozen 2
          have y3 : wr.frozen? ⟨x2, 3, none⟩ = false := B2.out.frozen 3
          have y4 : wr.frozen? ⟨x2, 4, none⟩ = false := B2.out.frozen 4
          have y5 : wr.frozen? ⟨x2, 5, none⟩ = false := B2.out.frozen 5
          have y6 : wr.frozen? ⟨x2, 6, none⟩ = false := B2.out.frozen 6
          have y7 : wr.frozen? ⟨x2, 7, none⟩ = false := B2.out.frozen 7
          have y8 : wr.frozen? ⟨x2, 8, none⟩ = false := B2.out.frozen 8
          have y9 : wr.frozen? ⟨x2, 9, none⟩ = false := B2.out.frozen 9
          have y10 : wr.frozen? ⟨x2, 10, none⟩ = false := B2.out.frozen 10
          have y11 : wr.frozen? ⟨x2, 11, none⟩ = false := B2.out.frozen 11
          have y12 : wr.frozen? ⟨x2, 12, none⟩ = false := B2.out.frozen 12
          have y13 : wr.frozen? ⟨x2, 13, none⟩ = false := B2.out.frozen 13
          go_wp2_with fail
          exact bodyPost_ret (v := .tuple #[.agg (optL zeroV).toArray, .slice none 0 0, .int .i64 4]) (by simp [results, Tryd.results43, go_sem, zeroV, z0, z1, z2, z3, z4, z5, z6, z7, z8, z9, z10, z11, z12, z13]) rfl (GetOf.mk HG.out (OwnB.nil_ _ _) ((((((((((((((fw.setCell hwx _).setCell hwx _).setCell hwx _).setCell hwx _).setCell hwx _).setCell hwx _).setCell hwx _).setCell hwx _).setCell hwx _).setCell hwx _).setCell hwx _).setCell hwx _).setCell hwx _).setCell hwx _))
        · have b7 := HE.out.2.2.1
          have d0 : wr.cell? ⟨x7, 0, none⟩ = some (.int .i64 (V 0)) := b7.cell 0
          have d1 : wr.cell? ⟨x7, 1, none⟩ = some (.int .u64 (V 1)) := b7.cell 1
          have d2 : wr.cell? ⟨x7, 2, none⟩ = some (.int .u64 (V 2)) := b7.cell 2
          have d3 : wr.cell? ⟨x7, 3, none⟩ = some (.int .u32 (V 3)) := b7.cell 3
          have d4 : wr.cell? ⟨x7, 4, none⟩ = some (.int .u32 (V 4)) := b7.cell 4
          have d5 : wr.cell? ⟨x7, 5, none⟩ = some (.int .i64 (V 5)) := b7.cell 5
          have d6 : wr.cell? ⟨x7, 6, none⟩ = some (.int .i64 (V 6)) := b7.cell 6
          have d7 : wr.cell? ⟨x7, 7, none⟩ = some (.bool (decide (V 7 = 1))) := b7.cell 7
          have d8 : wr.cell? ⟨x7, 8, none⟩ = some (.bool (decide (V 8 = 1))) := b7.cell 8
          have d9 : wr.cell? ⟨x7, 9, none⟩ = some (.int .i64 (V 9)) := b7.cell 9
          have d10 : wr.cell? ⟨x7, 10, none⟩ = some (.bool (decide (V 10 = 1))) := b7.cell 10
          have d11 : wr.cell? ⟨x7, 11, none⟩ = some (.int .i64 (V 11)) := b7.cell 11
          have d12 : wr.cell? ⟨x7, 12, none⟩ = some (.int .i64 (V 12)) := b7.cell 12
          have d13 : wr.cell? ⟨x7, 13, none⟩ = some (.bool (decide (V 13 = 1))) := b7.cell 13
          clear b7
          go_wp2_with fail
          refine (right_any V HE.out.2.2.2.1 wr).mono ?_
          rintro x w8 ⟨rfl, f8⟩
          obtain ⟨q, hq⟩ : ∃ q, rightF V = q := ⟨_, rfl⟩
          rw [hq]
          cases q
          · have HG := Lib.hid (HF.out V rest true hT (by rw [hq]; rfl))
            have B2 := Lib.hid (HE.out.2.1.fine f8)
            have fw := HE.out.1.trans f8
            clear hT hq d0 d1 d2 d3 d4 d5 d6 d7 d8 d9 d10 d11 d12 d13
            have z0 : w8.cell? ⟨x2, 0, none⟩ = some (.int .i64 0) := B2.out.cell 0
            have z1 : w8.cell? ⟨x2, 1, none⟩ = some (.int .u64 0) := B2.out.cell 1
            have z2 : w8.cell? ⟨x2, 2, none⟩ = some (.int .u64 0) := B2.out.cell 2
            have z3 : w8.cell? ⟨x2, 3, none⟩ = some (.int .u32 0) := B2.out.cell 3
            have z4 : w8.cell? ⟨x2, 4, none⟩ = some (.int .u32 0) := B2.out.cell 4
            have z5 : w8.cell? ⟨x2, 5, none⟩ = some (.int .i64 0) := B2.out.cell 5
            have z6 : w8.cell? ⟨x2, 6, none⟩ = some (.int .i64 0) := B2.out.cell 6
            have z7 : w8.cell? ⟨x2, 7, none⟩ = some (.bool false) := B2.out.cell 7
            have z8 : w8.cell? ⟨x2, 8, none⟩ = some (.bool false) := B2.out.cell 8
            have z9 : w8.cell? ⟨x2, 9, none⟩ = some (.int .i64 0) := B2.out.cell 9
            have z10 : w8.cell? ⟨x2, 10, none⟩ = some (.bool false) := B2.out.cell 10
            have z11 : w8.cell? ⟨x2, 11, none⟩ = some (.int .i64 0) := B2.out.cell 11
            have z12 : w8.cell? ⟨x2, 12, none⟩ = some (.int .i64 0) := B2.out.cell 12
            have z13 : w8.cell? ⟨x2, 13, none⟩ = some (.bool false) := B2.out.cell 13
            have y0 : w8.frozen? ⟨x2, 0, none⟩ = false := B2.out.frozen 0
            have y1 : w8.frozen? ⟨x2, 1, none⟩ = false := B2.out.frozen 1
            have y2 : w8.frozen? ⟨x2, 2, none⟩ = false := B2.out.frozen 2
            have y3 : w8.frozen? ⟨x2, 3, none⟩ = false := B2.out.frozen 3
            have y4 : w8.frozen? ⟨x2, 4, none⟩ = false := B2.out.frozen 4
            have y5 : w8.frozen? ⟨x2, 5, none⟩ = false := B2.out.frozen 5
            have y6 : w8.frozen? ⟨x2, 6, none⟩ = false := B2.out.frozen 6
            have y7 : w8.frozen? ⟨x2, 7, none⟩ = false := B2.out.frozen 7
            have y8 : w8.frozen? ⟨x2, 8, none⟩ = false := B2.out.frozen 8
            have y9 : w8.frozen? ⟨x2, 9, none⟩ = false := B2.out.frozen 9
            have y10 : w8.frozen? ⟨x2, 10, none⟩ = false := B2.out.frozen 10
            have y11 : w8.frozen? ⟨x2, 11, none⟩ = false := B2.out.frozen 11
            have y12 : w8.frozen? ⟨x2, 12, none⟩ = false := B2.out.frozen 12
            have y13 : w8.frozen? ⟨x2, 13, none⟩ = false := B2.out.frozen 13
            go_wp2_with fail
            exact bodyPost_ret (v := .tuple #[.agg (optL zeroV).toArray, .slice none 0 0, .int .i64 4]) (by simp [results, Tryd.results43, go_sem, zeroV, z0, z1, z2, z3, z4, z5, z6, z7, z8, z9, z10, z11, z12, z13]) rfl (GetOf.mk HG.out (OwnB.nil_ _ _) ((((((((((((((fw.setCell hwx _).setCell hwx _).setCell hwx _).setCell hwx _).setCell hwx _).setCell hwx _).setCell hwx _).setCell hwx _).setCell hwx _).setCell hwx _).setCell hwx _).setCell hwx _).setCell hwx _).setCell hwx _))
          · have HG := Lib.hid (HGd.out V rest true hT (by rw [hq]; rfl))
            have HE8 := Lib.hid (HE.out.fine f8)
            clear hT hq d0 d1 d2 d3 d4 d5 d6 d7 d8 d9 d10 d11 d12 d13 HE
            have b2 := HE8.out.2.1
            have b7 := HE8.out.2.2.1
            have d0 : w8.cell? ⟨x7, 0, none⟩ = some (.int .i64 (V 0)) := b7.cell 0
            have d1 : w8.cell? ⟨x7, 1, none⟩ = some (.int .u64 (V 1)) := b7.cell 1
            have d2 : w8.cell? ⟨x7, 2, none⟩ = some (.int .u64 (V 2)) := b7.cell 2
            have d3 : w8.cell? ⟨x7, 3, none⟩ = some (.int .u32 (V 3)) := b7.cell 3
            have d4 : w8.cell? ⟨x7, 4, none⟩ = some (.int .u32 (V 4)) := b7.cell 4
            have d5 : w8.cell? ⟨x7, 5, none⟩ = some (.int .i64 (V 5)) := b7.cell 5
            have d6 : w8.cell? ⟨x7, 6, none⟩ = some (.int .i64 (V 6)) := b7.cell 6
            have d7 : w8.cell? ⟨x7, 7, none⟩ = some (.bool (decide (V 7 = 1))) := b7.cell 7
            have d8 : w8.cell? ⟨x7, 8, none⟩ = some (.bool (decide (V 8 = 1))) := b7.cell 8
            have d9 : w8.cell? ⟨x7, 9, none⟩ = some (.int .i64 (V 9)) := b7.cell 9
            have d10 : w8.cell? ⟨x7, 10, none⟩ = some (.bool (decide (V 10 = 1))) := b7.cell 10
            have d11 : w8.cell? ⟨x7, 11, none⟩ = some (.int .i64 (V 11)) := b7.cell 11
            have d12 : w8.cell? ⟨x7, 12, none⟩ = some (.int .i64 (V 12)) := b7.cell 12
            have d13 : w8.cell? ⟨x7, 13, none⟩ = some (.bool (decide (V 13 = 1))) := b7.cell 13
            have z0 : w8.cell? ⟨x2, 0, none⟩ = some (.int .i64 0) := b2.cell 0
            have z1 : w8.cell? ⟨x2, 1, none⟩ = some (.int .u64 0) := b2.cell 1
            have z2 : w8.cell? ⟨x2, 2, none⟩ = some (.int .u64 0) := b2.cell 2
            have z3 : w8.cell? ⟨x2, 3, none⟩ = some (.int .u32 0) := b2.cell 3
            have z4 : w8.cell? ⟨x2, 4, none⟩ = some (.int .u32 0) := b2.cell 4
            have z5 : w8.cell? ⟨x2, 5, none⟩ = some (.int .i64 0) := b2.cell 5
            have z6 : w8.cell? ⟨x2, 6, none⟩ = some (.int .i64 0) := b2.cell 6
            have z7 : w8.cell? ⟨x2, 7, none⟩ = some (.bool false) := b2.cell 7
            have z8 : w8.cell? ⟨x2, 8, none⟩ = some (.bool false) := b2.cell 8
            have z9 : w8.cell? ⟨x2, 9, none⟩ = some (.int .i64 0) := b2.cell 9
            have z10 : w8.cell? ⟨x2, 10, none⟩ = some (.bool false) := b2.cell 10
            have z11 : w8.cell? ⟨x2, 11, none⟩ = some (.int .i64 0) := b2.cell 11
            have z12 : w8.cell? ⟨x2, 12, none⟩ = some (.int .i64 0) := b2.cell 12
            have z13 : w8.cell? ⟨x2, 13, none⟩ = some (.bool false) := b2.cell 13
            have y0 : w8.frozen? ⟨x2, 0, none⟩ = false := b2.frozen 0
            have y1 : w8.frozen? ⟨x2, 1, none⟩ = false := b2.frozen 1
            have y2 : w8.frozen? ⟨x2, 2, none⟩ = false := b2.frozen 2
            have y3 : w8.frozen? ⟨x2, 3, none⟩ = false := b2.frozen 3
            have y4 : w8.frozen? ⟨x2, 4, none⟩ = false := b2.frozen 4
            have y5 : w8.frozen? ⟨x2, 5, none⟩ = false := b2.frozen 5
            have y6 : w8.frozen? ⟨x2, 6, none⟩ = false := b2.frozen 6
            have y7 : w8.frozen? ⟨x2, 7, none⟩ = false := b2.frozen 7
            have y8 : w8.frozen? ⟨x2, 8, none⟩ = false := b2.frozen 8
            have y9 : w8.frozen? ⟨x2, 9, none⟩ = false := b2.frozen 9
            have y10 : w8.frozen? ⟨x2, 10, none⟩ = false := b2.frozen 10
            have y11 : w8.frozen? ⟨x2, 11, none⟩ = false := b2.frozen 11
            have y12 : w8.frozen? ⟨x2, 12, none⟩ = false := b2.frozen 12
            have y13 : w8.frozen? ⟨x2, 13, none⟩ = false := b2.frozen 13
            have hx2l := b2.lt
            have hx7l := b7.lt
            have HK : Hid (∀ w', Kept (fun x => x = x2) w8 w' → (fun w' => w'.cell? ⟨x7, 0, none⟩ = some (.int .i64 (V 0)) ∧ w'.cell? ⟨x7, 1, none⟩ = some (.int .u64 (V 1)) ∧ w'.cell? ⟨x7, 2, none⟩ = some (.int .u64 (V 2)) ∧ w'.cell? ⟨x7, 3, none⟩ = some (.int .u32 (V 3)) ∧ w'.cell? ⟨x7, 4, none⟩ = some (.int .u32 (V 4)) ∧ w'.cell? ⟨x7, 5, none⟩ = some (.int .i64 (V 5)) ∧ w'.cell? ⟨x7, 6, none⟩ = some (.int .i64 (V 6)) ∧ w'.cell? ⟨x7, 7, none⟩ = some (.bool (decide (V 7 = 1))) ∧ w'.cell? ⟨x7, 8, none⟩ = some (.bool (decide (V 8 = 1))) ∧ w'.cell? ⟨x7, 9, none⟩ = some (.int .i64 (V 9)) ∧ w'.cell? ⟨x7, 10, none⟩ = some (.bool (decide (V 10 = 1))) ∧ w'.cell? ⟨x7, 11, none⟩ = some (.int .i64 (V 11)) ∧ w'.cell? ⟨x7, 12, none⟩ = some (.int .i64 (V 12)) ∧ w'.cell? ⟨x7, 13, none⟩ = some (.bool (decide (V 13 = 1)))) w') := Lib.hid (fun w' hk => by
              have b7' := b7.kept hk (fun e => hx27 e.symm)
              exact ⟨b7'.cell 0, b7'.cell 1, b7'.cell 2, b7'.cell 3, b7'.cell 4, b7'.cell 5, b7'.cell 6, b7'.cell 7, b7'.cell 8, b7'.cell 9, b7'.cell 10, b7'.cell 11, b7'.cell 12, b7'.cell 13⟩)
            have HZ : Hid (∀ w', Fine w8 w' → w'.cell? ⟨x2, 0, none⟩ = some (.int .i64 0) ∧ w'.cell? ⟨x2, 1, none⟩ = some (.int .u64 0) ∧ w'.cell? ⟨x2, 2, none⟩ = some (.int .u64 0) ∧ w'.cell? ⟨x2, 3, none⟩ = some (.int .u32 0) ∧ w'.cell? ⟨x2, 4, none⟩ = some (.int .u32 0) ∧ w'.cell? ⟨x2, 5, none⟩ = some (.int .i64 0) ∧ w'.cell? ⟨x2, 6, none⟩ = some (.int .i64 0) ∧ w'.cell? ⟨x2, 7, none⟩ = some (.bool false) ∧ w'.cell? ⟨x2, 8, none⟩ = some (.bool false) ∧ w'.cell? ⟨x2, 9, none⟩ = some (.int .i64 0) ∧ w'.cell? ⟨x2, 10, none⟩ = some (.bool false) ∧ w'.cell? ⟨x2, 11, none⟩ = some (.int .i64 0) ∧ w'.cell? ⟨x2, 12, none⟩ = some (.int .i64 0) ∧ w'.cell? ⟨x2, 13, none⟩ = some (.bool false) ∧ w'.frozen? ⟨x2, 0, none⟩ = false ∧ w'.frozen? ⟨x2, 1, none⟩ = false ∧ w'.frozen? ⟨x2, 2, none⟩ = false ∧ w'.frozen? ⟨x2, 3, none⟩ = false ∧ w'.frozen? ⟨x2, 4, none⟩ = false ∧ w'.frozen? ⟨x2, 5, none⟩ = false ∧ w'.frozen? ⟨x2, 6, none⟩ = false ∧ w'.frozen? ⟨x2, 7, none⟩ = false ∧ w'.frozen? ⟨x2, 8, none⟩ = false ∧ w'.frozen? ⟨x2, 9, none⟩ = false ∧ w'.frozen? ⟨x2, 10, none⟩ = false ∧ w'.frozen? ⟨x2, 11, none⟩ = false ∧ w'.frozen? ⟨x2, 12, none⟩ = false ∧ w'.frozen? ⟨x2, 13, none⟩ = false) := Lib.hid (fun w' hk => by
              have b2' := b2.fine hk
              exact ⟨b2'.cell 0, b2'.cell 1, b2'.cell 2, b2'.cell 3, b2'.cell 4, b2'.cell 5, b2'.cell 6, b2'.cell 7, b2'.cell 8, b2'.cell 9, b2'.cell 10, b2'.cell 11, b2'.cell 12, b2'.cell 13, b2'.frozen 0, b2'.frozen 1, b2'.frozen 2, b2'.frozen 3, b2'.frozen 4, b2'.frozen 5, b2'.frozen 6, b2'.frozen 7, b2'.frozen 8, b2'.frozen 9, b2'.frozen 10, b2'.frozen 11, b2'.frozen 12, b2'.frozen 13⟩)
            have za0 : ∀ o, (w8.alloc o).cell? ⟨x2, 0, none⟩ = some (.int .i64 0) := fun o => (b2.alloc o).cell 0
            have zd0 : ∀ o, (w8.drew.alloc o).cell? ⟨x2, 0, none⟩ = some (.int .i64 0) := fun o => (b2.drew.alloc o).cell 0
            have yd0 : ∀ o, (w8.drew.alloc o).frozen? ⟨x2, 0, none⟩ = false := fun o => (b2.drew.alloc o).frozen 0
            have ze0 : w8.drew.cell? ⟨x2, 0, none⟩ = some (.int .i64 0) := b2.drew.cell 0
            have ye0 : w8.drew.frozen? ⟨x2, 0, none⟩ = false := b2.drew.frozen 0
            have ya0 : ∀ o, (w8.alloc o).frozen? ⟨x2, 0, none⟩ = false := fun o => (b2.alloc o).frozen 0
            have za1 : ∀ o, (w8.alloc o).cell? ⟨x2, 1, none⟩ = some (.int .u64 0) := fun o => (b2.alloc o).cell 1
            have zd1 : ∀ o, (w8.drew.alloc o).cell? ⟨x2, 1, none⟩ = some (.int .u64 0) := fun o => (b2.drew.alloc o).cell 1
            have yd1 : ∀ o, (w8.drew.alloc o).frozen? ⟨x2, 1, none⟩ = false := fun o => (b2.drew.alloc o).frozen 1
            have ze1 : w8.drew.cell? ⟨x2, 1, none⟩ = some (.int .u64 0) := b2.drew.cell 1
            have ye1 : w8.drew.frozen? ⟨x2, 1, none⟩ = false := b2.drew.frozen 1
            have ya1 : ∀ o, (w8.alloc o).frozen? ⟨x2, 1, none⟩ = false := fun o => (b2.alloc o).frozen 1
            have za2 : ∀ o, (w8.alloc o).cell? ⟨x2, 2, none⟩ = some (.int .u64 0) := fun o => (b2.alloc o).cell 2
            have zd2 : ∀ o, (w8.drew.alloc o).cell? ⟨x2, 2, none⟩ = some (.int .u64 0) := fun o => (b2.drew.alloc o).cell 2
            have yd2 : ∀ o, (w8.drew.alloc o).frozen? ⟨x2, 2, none⟩ = false := fun o => (b2.drew.alloc o).frozen 2
            have ze2 : w8.drew.cell? ⟨x2, 2, none⟩ = some (.int .u64 0) := b2.drew.cell 2
            have ye2 : w8.drew.frozen? ⟨x2, 2, none⟩ = false := b2.drew.frozen 2
            have ya2 : ∀ o, (w8.alloc o).frozen? ⟨x2, 2, none⟩ = false := fun o => (b2.alloc o).frozen 2
            have za3 : ∀ o, (w8.alloc o).cell? ⟨x2, 3, none⟩ = some (.int .u32 0) := fun o => (b2.alloc o).cell 3
            have zd3 : ∀ o, (w8.drew.alloc o).cell? ⟨x2, 3, none⟩ = some (.int .u32 0) := fun o => (b2.drew.alloc o).cell 3
            have yd3 : ∀ o, (w8.drew.alloc o).frozen? ⟨x2, 3, none⟩ = false := fun o => (b2.drew.alloc o).frozen 3
            have ze3 : w8.drew.cell? ⟨x2, 3, none⟩ = some (.int .u32 0) := b2.drew.cell 3
            have ye3 : w8.drew.frozen? ⟨x2, 3, none⟩ = false := b2.drew.frozen 3
            have ya3 : ∀ o, (w8.alloc o).frozen? ⟨x2, 3, none⟩ = false := fun o => (b2.alloc o).frozen 3
            have za4 : ∀ o, (w8.alloc o).cell? ⟨x2, 4, none⟩ = some (.int .u32 0) := fun o => (b2.alloc o).cell 4
            have zd4 : ∀ o, (w8.drew.alloc o).cell? ⟨x2, 4, none⟩ = some (.int .u32 0) := fun o => (b2.drew.alloc o).cell 4
            have yd4 : ∀ o, (w8.drew.alloc o).frozen? ⟨x2, 4, none⟩ = false := fun o => (b2.drew.alloc o).frozen 4
            have ze4 : w8.drew.cell? ⟨x2, 4, none⟩ = some (.int .u32 0) := b2.drew.cell 4
            have ye4 : w8.drew.frozen? ⟨x2, 4, none⟩ = false := b2.drew.frozen 4
            have ya4 : ∀ o, (w8.alloc o).frozen? ⟨x2, 4, none⟩ = false := fun o => (b2.alloc o).frozen 4
            have za5 : ∀ o, (w8.alloc o).cell? ⟨x2, 5, none⟩ = some (.int .i64 0) := fun o => (b2.alloc o).cell 5
            have zd5 : ∀ o, (w8.drew.alloc o).cell? ⟨x2, 5, none⟩ = some (.int .i64 0) := fun o => (b2.drew.alloc o).cell 5
            have yd5 : ∀ o, (w8.drew.alloc o).frozen? ⟨x2, 5, none⟩ = false := fun o => (b2.drew.alloc o).frozen 5
            have ze5 : w8.drew.cell? ⟨x2, 5, none⟩ = some (.int .i64 0) := b2.drew.cell 5
            have ye5 : w8.drew.frozen? ⟨x2, 5, none⟩ = false := b2.drew.frozen 5
            have ya5 : ∀ o, (w8.alloc o).frozen? ⟨x2, 5, none⟩ = false := fun o => (b2.alloc o).frozen 5
            have za6 : ∀ o, (w8.alloc o).cell? ⟨x2, 6, none⟩ = some (.int .i64 0) := fun o => (b2.alloc o).cell 6
            have zd6 : ∀ o, (w8.drew.alloc o).cell? ⟨x2, 6, none⟩ = some (.int .i64 0) := fun o => (b2.drew.alloc o).cell 6
            have yd6 : ∀ o, (w8.drew.alloc o).frozen? ⟨x2, 6, none⟩ = false := fun o => (b2.drew.alloc o).frozen 6
            have ze6 : w8.drew.cell? ⟨x2, 6, none⟩ = some (.int .i64 0) := b2.drew.cell 6
            have ye6 : w8.drew.frozen? ⟨x2, 6, none⟩ = false := b2.drew.frozen 6
            have ya6 : ∀ o, (w8.alloc o).frozen? ⟨x2, 6, none⟩ = false := fun o => (b2.alloc o).frozen 6
            have za7 : ∀ o, (w8.alloc o).cell? ⟨x2, 7, none⟩ = some (.bool false) := fun o => (b2.alloc o).cell 7
            have zd7 : ∀ o, (w8.drew.alloc o).cell? ⟨x2, 7, none⟩ = some (.bool false) := fun o => (b2.drew.alloc o).cell 7
            have yd7 : ∀ o, (w8.drew.alloc o).frozen? ⟨x2, 7, none⟩ = false := fun o => (b2.drew.alloc o).frozen 7
            have ze7 : w8.drew.cell? ⟨x2, 7, none⟩ = some (.bool false) := b2.drew.cell 7
            have ye7 : w8.drew.frozen? ⟨x2, 7, none⟩ = false := b2.drew.frozen 7
            have ya7 : ∀ o, (w8.alloc o).frozen? ⟨x2, 7, none⟩ = false := fun o => (b2.alloc o).frozen 7
            have za8 : ∀ o, (w8.alloc o).cell? ⟨x2, 8, none⟩ = some (.bool false) := fun o => (b2.alloc o).cell 8
            have zd8 : ∀ o, (w8.drew.alloc o).cell? ⟨x2, 8, none⟩ = some (.bool false) := fun o => (b2.drew.alloc o).cell 8
            have yd8 : ∀ o, (w8.drew.alloc o).frozen? ⟨x2, 8, none⟩ = false := fun o => (b2.drew.alloc o).frozen 8
            have ze8 : w8.drew.cell? ⟨x2, 8, none⟩ = some (.bool false) := b2.drew.cell 8
            have ye8 : w8.drew.frozen? ⟨x2, 8, none⟩ = false := b2.drew.frozen 8
            have ya8 : ∀ o, (w8.alloc o).frozen? ⟨x2, 8, none⟩ = false := fun o => (b2.alloc o).frozen 8
            have za9 : ∀ o, (w8.alloc o).cell? ⟨x2, 9, none⟩ = some (.int .i64 0) := fun o => (b2.alloc o).cell 9
            have zd9 : ∀ o, (w8.drew.alloc o).cell? ⟨x2, 9, none⟩ = some (.int .i64 0) := fun o => (b2.drew.alloc o).cell 9
            have yd9 : ∀ o, (w8.drew.alloc o).frozen? ⟨x2, 9, none⟩ = false := fun o => (b2.drew.alloc o).frozen 9
            have ze9 : w8.drew.cell? ⟨x2, 9, none⟩ = some (.int .i64 0) := b2.drew.cell 9
            have ye9 : w8.drew.frozen? ⟨x2, 9, none⟩ = false := b2.drew.frozen 9
            have ya9 : ∀ o, (w8.alloc o).frozen? ⟨x2, 9, none⟩ = false := fun o => (b2.alloc o).frozen 9
            have za10 : ∀ o, (w8.alloc o).cell? ⟨x2, 10, none⟩ = some (.bool false) := fun o => (b2.alloc o).cell 10
            have zd10 : ∀ o, (w8.drew.alloc o).cell? ⟨x2, 10, none⟩ = some (.bool false) := fun o => (b2.drew.alloc o).cell 10
            have yd10 : ∀ o, (w8.drew.alloc o).frozen? ⟨x2, 10, none⟩ = false := fun o => (b2.drew.alloc o).frozen 10
            have ze10 : w8.drew.cell? ⟨x2, 10, none⟩ = some (.bool false) := b2.drew.cell 10
            have ye10 : w8.drew.frozen? ⟨x2, 10, none⟩ = false := b2.drew.frozen 10
            have ya10 : ∀ o, (w8.alloc o).frozen? ⟨x2, 10, none⟩ = false := fun o => (b2.alloc o).frozen 10
            have za11 : ∀ o, (w8.alloc o).cell? ⟨x2, 11, none⟩ = some (.int .i64 0) := fun o => (b2.alloc o).cell 11
            have zd11 : ∀ o, (w8.drew.alloc o).cell? ⟨x2, 11, none⟩ = some (.int .i64 0) := fun o => (b2.drew.alloc o).cell 11
            have yd11 : ∀ o, (w8.drew.alloc o).frozen? ⟨x2, 11, none⟩ = false := fun o => (b2.drew.alloc o).frozen 11
            have ze11 : w8.drew.cell? ⟨x2, 11, none⟩ = some (.int .i64 0) := b2.drew.cell 11
            have ye11 : w8.drew.frozen? ⟨x2, 11, none⟩ = false := b2.drew.frozen 11
            have ya11 : ∀ o, (w8.alloc o).frozen? ⟨x2, 11, none⟩ = false := fun o => (b2.alloc o).frozen 11
            have za12 : ∀ o, (w8.alloc o).cell? ⟨x2, 12, none⟩ = some (.int .i64 0) := fun o => (b2.alloc o).cell 12
            have zd12 : ∀ o, (w8.drew.alloc o).cell? ⟨x2, 12, none⟩ = some (.int .i64 0) := fun o => (b2.drew.alloc o).cell 12
            have yd12 : ∀ o, (w8.drew.alloc o).frozen? ⟨x2, 12, none⟩ = false := fun o => (b2.drew.alloc o).frozen 12
            have ze12 : w8.drew.cell? ⟨x2, 12, none⟩ = some (.int .i64 0) := b2.drew.cell 12
            have ye12 : w8.drew.frozen? ⟨x2, 12, none⟩ = false := b2.drew.frozen 12
            have ya12 : ∀ o, (w8.alloc o).frozen? ⟨x2, 12, none⟩ = false := fun o => (b2.alloc o).frozen 12
            have za13 : ∀ o, (w8.alloc o).cell? ⟨x2, 13, none⟩ = some (.bool false) := fun o => (b2.alloc o).cell 13
            have zd13 : ∀ o, (w8.drew.alloc o).cell? ⟨x2, 13, none⟩ = some (.bool false) := fun o => (b2.drew.alloc o).cell 13
            have yd13 : ∀ o, (w8.drew.alloc o).frozen? ⟨x2, 13, none⟩ = false := fun o => (b2.drew.alloc o).frozen 13
            have ze13 : w8.drew.cell? ⟨x2, 13, none⟩ = some (.bool false) := b2.drew.cell 13
            have ye13 : w8.drew.frozen? ⟨x2, 13, none⟩ = false := b2.drew.frozen 13
            have ya13 : ∀ o, (w8.alloc o).frozen? ⟨x2, 13, none⟩ = false := fun o => (b2.alloc o).frozen 13
            have HJ : Hid (∀ w', Kept (fun x => x = x2) w8 w' → Blk w' w8.heap.size 24 #[.slice A' rest.length c'] → Calls Tryd.prog 37 #[.slice (some ⟨w8.heap.size, 0, none⟩) 1 1] w' fun e w'' => ∃ v, e = .returned v ∧ OwnB w'' w.heap.size v rest ∧ Fine w' w'') := Lib.hid (fun w' hk hb => by
              refine (join_one w8.heap.size A' rest.length c' rest w' (hb.cell 0) rfl (HE8.out.2.2.2.2.2.2.1.far b2 hk).bs.1 (by have := HE8.out.2.2.2.2.2.2.2.1; omega)).mono ?_
              rintro e w'' ⟨v, h1, h2, h3⟩
              exact ⟨v, h1, h2.lower (Nat.le_trans HE8.out.1.size hk.size), h3⟩)
            have B2 := Lib.hid b2
            have fw8 := HE8.out.1
            have hne2 : w8.heap.size ≠ x2 := by omega
            clear b2 b7 HE8
            go_wp2_with fail
            go_region_held3 (fun w' => w'.cell? ⟨x7, 0, none⟩ = some (.int .i64 (V 0)) ∧ w'.cell? ⟨x7, 1, none⟩ = some (.int .u64 (V 1)) ∧ w'.cell? ⟨x7, 2, none⟩ = some (.int .u64 (V 2)) ∧ w'.cell? ⟨x7, 3, none⟩ = some (.int .u32 (V 3)) ∧ w'.cell? ⟨x7, 4, none⟩ = some (.int .u32 (V 4)) ∧ w'.cell? ⟨x7, 5, none⟩ = some (.int .i64 (V 5)) ∧ w'.cell? ⟨x7, 6, none⟩ = some (.int .i64 (V 6)) ∧ w'.cell? ⟨x7, 7, none⟩ = some (.bool (decide (V 7 = 1))) ∧ w'.cell? ⟨x7, 8, none⟩ = some (.bool (decide (V 8 = 1))) ∧ w'.cell? ⟨x7, 9, none⟩ = some (.int .i64 (V 9)) ∧ w'.cell? ⟨x7, 10, none⟩ = some (.bool (decide (V 10 = 1))) ∧ w'.cell? ⟨x7, 11, none⟩ = some (.int .i64 (V 11)) ∧ w'.cell? ⟨x7, 12, none⟩ = some (.int .i64 (V 12)) ∧ w'.cell? ⟨x7, 13, none⟩ = some (.bool (decide (V 13 = 1)))) ((refine HK.out _ ?_; repeat (first | refine Kept.setB ?_ | refine Kept.trans ?_ (Kept.of_fine fJ) | refine Kept.alloc ?_ _ | refine Kept.drew ?_ | exact Kept.refl _ _))) ((go_at_call 37; refine (HJ.out _ ?_ ?_).mono ?_; (repeat (first | refine Kept.setB ?_ | refine Kept.alloc ?_ _ | refine Kept.drew ?_ | exact Kept.refl _ _)); (repeat (first | exact Blk.new _ _ _ | refine Blk.far ?_ hne2 _ | exact Blk.newAt (by simp)));  rintro x wJ ⟨vJ, rfl, oJ, fJ⟩; try (have zz := HZ.out wJ (((Fine.refl w8).alloc _).drew.trans fJ); obtain ⟨zz0, zz1, zz2, zz3, zz4, zz5, zz6, zz7, zz8, zz9, zz10, zz11, zz12, zz13, yy0, yy1, yy2, yy3, yy4, yy5, yy6, yy7, yy8, yy9, yy10, yy11, yy12, yy13⟩ := zz)))
            have bJ := (B2.out.alloc (.cells #[.slice A' rest.length c'] 24)).drew.fine fJ
            have oE := oJ.far bJ (opt_stored_kept wJ x2 V)
            have fE := (((fw8.alloc (.cells #[.slice A' rest.length c'] 24)).drew.trans fJ).kept (opt_stored_kept wJ x2 V) (fun x hx e => by omega))
            have bE := opt_stored (V := V) bJ
            go_wp2_with fail
            exact bodyPost_ret (v := .tuple #[.agg (optL V).toArray, vJ, .int .i64 0]) (by simp [results, Tryd.results43, go_sem, zz0, zz1, zz2, zz3, zz4, zz5, zz6, zz7, zz8, zz9, zz10, zz11, zz12, zz13]) rfl (GetOf.mk HG.out oE fE)
end Go.Proofs.YthnennleblgjeaaDoor
