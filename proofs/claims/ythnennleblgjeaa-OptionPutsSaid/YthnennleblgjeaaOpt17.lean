/- The law OptionPuts. (Printed by genputs.py.) -/
import Derived.Test.YthnennleblgjeaaOpt15
import Derived.Test.YthnennleblgjeaaOptRef5
namespace Go.Proofs.Ythnennleblgjeaa
open Go.ChangeShapes Go.WideShapes Go.ChangeAt Go.RowKit
set_option linter.unusedVariables false
set_option linter.unusedSimpArgs false
attribute [local go_sem ↓ high] eq56b
theorem optL_congr {V V' : Nat → Int} (h : ∀ j, j < 14 → V' j = V j) : optL V' = optL V := by
  unfold optL
  rw [h 0 (by decide), h 1 (by decide), h 2 (by decide), h 3 (by decide), h 4 (by decide), h 5 (by decide), h 6 (by decide), h 7 (by decide), h 8 (by decide), h 9 (by decide), h 10 (by decide), h 11 (by decide), h 12 (by decide), h 13 (by decide)]
set_option maxHeartbeats 8000000 in
set_option maxRecDepth 100000 in
theorem puts_good (A : Option Addr) (c : Nat) (l : List (Nat → Int)) (w : World) (h : RS layO w A c l) (hlc : Hid (l.length ≤ 50)) (hV : Hid (∀ V ∈ l, OkV V)) (hall : Hid (∀ V ∈ l, rightF V = true)) : Calls Try.prog 14 #[.slice A l.length c] w fun q w' => q = .returned (.bool true) ∧ Fine w w' := by
  have H := Lib.hid h; clear h
  have hl50 : l.length ≤ 50 := hlc.out
  go_enter Try.func14, Try.ntmps14
  go_wp2_with fail
  refine (optWakes_any _).mono ?_
  rintro x w1 ⟨rfl, f1⟩
  go_wp2_with fail
  refine (optPut_any A c l (by omega) hV.out w1 (H.out.fine f1)).mono ?_
  rintro x w0 ⟨f0, ⟨v, _, rfl, hv⟩ | ⟨⟨U, hU, hU2⟩, rfl⟩⟩
  case inr => exact absurd (hall.out U hU) (by rw [hU2]; decide)
  have F0 := f1.trans f0
  have HF0 := Lib.hid F0
  have hsz0 := F0.size
  obtain ⟨bs, hbs⟩ : ∃ bs, l.flatMap optB = bs := ⟨_, rfl⟩
  rw [hbs] at hv
  have HBS := Lib.hid hbs
  clear hbs
  obtain ⟨Av, cv, rfl, hbv, _⟩ := hv.form
  have HBV := Lib.hid hbv; clear hbv hv f1 f0
  have hNil : Hid (PutSt w0 (.slice none 0 0) ((l.take 0).flatMap optB) w0 ∧ True) := Lib.hid ⟨⟨Fine.refl _, by simpa using OwnB.nil_ w0 _⟩, trivial⟩
  clear F0
  go_wp2_with fail
  go_loopw [26, 6, 5] (fun s26 s6 s5 wr => ∃ (i : Nat) (t : Bool) (v5 : Value), i ≤ l.length ∧ s26 = .int .i64 i ∧ s6 = .bool true ∧ s5 = v5 ∧ Hid (PutSt w0 v5 ((l.take i).flatMap optB) wr ∧ True)) (fun s26 _ _ _ => l.length - (intOf s26).toNat)
  case atStart => exact ⟨0, true, _, Nat.zero_le _, rfl, rfl, rfl, hNil⟩
  case round =>
    obtain ⟨i, t, v5, hi, rfl, rfl, rfl, hR⟩ := hrel
    by_cases hlt : i < l.length
    · skip
      obtain ⟨V, hV0⟩ : ∃ V, l[i]? = some V := ⟨l[i], List.getElem?_eq_getElem hlt⟩
      obtain ⟨b, o, rfl, hb, hc⟩ := (H.out.fine (HF0.out.trans hR.out.1.1)).at_ hV0
      have c0 := hc 0 (.int .i64 (V 0)) rfl
      have c1 := hc 1 (.int .u64 (V 1)) rfl
      have c2 := hc 2 (.int .u64 (V 2)) rfl
      have c3 := hc 3 (.int .u32 (V 3)) rfl
      have c4 := hc 4 (.int .u32 (V 4)) rfl
      have c5 := hc 5 (.int .i64 (V 5)) rfl
      have c6 := hc 6 (.int .i64 (V 6)) rfl
      have c7 := hc 7 (.bool (decide (V 7 = 1))) rfl
      have c8 := hc 8 (.bool (decide (V 8 = 1))) rfl
      have c9 := hc 9 (.int .i64 (V 9)) rfl
      have c10 := hc 10 (.bool (decide (V 10 = 1))) rfl
      have c11 := hc 11 (.int .i64 (V 11)) rfl
      have c12 := hc 12 (.int .i64 (V 12)) rfl
      have c13 := hc 13 (.bool (decide (V 13 = 1))) rfl
      simp only [← Nat.add_assoc, Nat.add_zero] at c0 c1 c2 c3 c4 c5 c6 c7 c8 c9 c10 c11 c12 c13
      have HV0 := Lib.hid hV0
      have HVk := Lib.hid (hV.out V (List.mem_of_getElem? hV0))
      clear hc hV0
      have HQ : Hid (rightF V = true) := Lib.hid (hall.out V (List.mem_of_getElem? HV0.out))
      go_wp2_with fail
      have b8 : Blk (wr.alloc (.cells #[.int .i64 (V 0), .int .u64 (V 1), .int .u64 (V 2), .int .u32 (V 3), .int .u32 (V 4), .int .i64 (V 5), .int .i64 (V 6), .bool (decide (V 7 = 1)), .bool (decide (V 8 = 1)), .int .i64 (V 9), .bool (decide (V 10 = 1)), .int .i64 (V 11), .int .i64 (V 12), .bool (decide (V 13 = 1))] 56)) wr.heap.size 56 (optL V).toArray := Blk.new wr 56 _
      have f8 : Fine wr (wr.alloc (.cells #[.int .i64 (V 0), .int .u64 (V 1), .int .u64 (V 2), .int .u32 (V 3), .int .u32 (V 4), .int .i64 (V 5), .int .i64 (V 6), .bool (decide (V 7 = 1)), .bool (decide (V 8 = 1)), .int .i64 (V 9), .bool (decide (V 10 = 1)), .int .i64 (V 11), .int .i64 (V 12), .bool (decide (V 13 = 1))] 56)) := (Fine.refl wr).alloc _
      clear c0 c1 c2 c3 c4 c5 c6 c7 c8 c9 c10 c11 c12 c13
      obtain ⟨x8, hx8⟩ : ∃ x, wr.heap.size = x := ⟨_, rfl⟩
      generalize (wr.alloc (.cells #[.int .i64 (V 0), .int .u64 (V 1), .int .u64 (V 2), .int .u32 (V 3), .int .u32 (V 4), .int .i64 (V 5), .int .i64 (V 6), .bool (decide (V 7 = 1)), .bool (decide (V 8 = 1)), .int .i64 (V 9), .bool (decide (V 10 = 1)), .int .i64 (V 11), .int .i64 (V 12), .bool (decide (V 13 = 1))] 56)) = w8 at b8 f8 ⊢
      rw [hx8] at b8 ⊢
      clear hx8
      have B8 := Lib.hid b8; clear b8
      have HK : Hid (∀ w', Fine w8 w' → (fun w' => w'.cell? ⟨x8, 0, none⟩ = some (.int .i64 (V 0)) ∧ w'.cell? ⟨x8, 1, none⟩ = some (.int .u64 (V 1)) ∧ w'.cell? ⟨x8, 2, none⟩ = some (.int .u64 (V 2)) ∧ w'.cell? ⟨x8, 3, none⟩ = some (.int .u32 (V 3)) ∧ w'.cell? ⟨x8, 4, none⟩ = some (.int .u32 (V 4)) ∧ w'.cell? ⟨x8, 5, none⟩ = some (.int .i64 (V 5)) ∧ w'.cell? ⟨x8, 6, none⟩ = some (.int .i64 (V 6)) ∧ w'.cell? ⟨x8, 7, none⟩ = some (.bool (decide (V 7 = 1))) ∧ w'.cell? ⟨x8, 8, none⟩ = some (.bool (decide (V 8 = 1))) ∧ w'.cell? ⟨x8, 9, none⟩ = some (.int .i64 (V 9)) ∧ w'.cell? ⟨x8, 10, none⟩ = some (.bool (decide (V 10 = 1))) ∧ w'.cell? ⟨x8, 11, none⟩ = some (.int .i64 (V 11)) ∧ w'.cell? ⟨x8, 12, none⟩ = some (.int .i64 (V 12)) ∧ w'.cell? ⟨x8, 13, none⟩ = some (.bool (decide (V 13 = 1)))) w') := Lib.hid (fun w' hk => by
        have b := B8.out.fine hk
        exact ⟨b.cell 0, b.cell 1, b.cell 2, b.cell 3, b.cell 4, b.cell 5, b.cell 6, b.cell 7, b.cell 8, b.cell 9, b.cell 10, b.cell 11, b.cell 12, b.cell 13⟩)
      go_region_held3 (fun w' => w'.cell? ⟨x8, 0, none⟩ = some (.int .i64 (V 0)) ∧ w'.cell? ⟨x8, 1, none⟩ = some (.int .u64 (V 1)) ∧ w'.cell? ⟨x8, 2, none⟩ = some (.int .u64 (V 2)) ∧ w'.cell? ⟨x8, 3, none⟩ = some (.int .u32 (V 3)) ∧ w'.cell? ⟨x8, 4, none⟩ = some (.int .u32 (V 4)) ∧ w'.cell? ⟨x8, 5, none⟩ = some (.int .i64 (V 5)) ∧ w'.cell? ⟨x8, 6, none⟩ = some (.int .i64 (V 6)) ∧ w'.cell? ⟨x8, 7, none⟩ = some (.bool (decide (V 7 = 1))) ∧ w'.cell? ⟨x8, 8, none⟩ = some (.bool (decide (V 8 = 1))) ∧ w'.cell? ⟨x8, 9, none⟩ = some (.int .i64 (V 9)) ∧ w'.cell? ⟨x8, 10, none⟩ = some (.bool (decide (V 10 = 1))) ∧ w'.cell? ⟨x8, 11, none⟩ = some (.int .i64 (V 11)) ∧ w'.cell? ⟨x8, 12, none⟩ = some (.int .i64 (V 12)) ∧ w'.cell? ⟨x8, 13, none⟩ = some (.bool (decide (V 13 = 1)))) ((with_reducible refine HK.out _ ?_; repeat (first | with_reducible refine Fine.trans ?_ fB | with_reducible refine Fine.trans ?_ fA | with_reducible refine Fine.drew ?_ | with_reducible exact Fine.refl _))) (first | (go_at_call 37; refine (right_any V HVk.out _).mono ?_; rintro x wA ⟨rfl, fA⟩; rw [HQ.out]) | (go_at_call 38; refine (refRight_any V HVk.out _).mono ?_; rintro x wB ⟨rfl, fB⟩; rw [← right_ref HVk.out, HQ.out]))
      have fAB := ((Fine.refl w8).drew.trans fA).trans fB
      have e0 : wB.cell? ⟨x8, 0, none⟩ = some (.int .i64 (V 0)) := (B8.out.fine fAB).cell 0
      have e1 : wB.cell? ⟨x8, 1, none⟩ = some (.int .u64 (V 1)) := (B8.out.fine fAB).cell 1
      have e2 : wB.cell? ⟨x8, 2, none⟩ = some (.int .u64 (V 2)) := (B8.out.fine fAB).cell 2
      have e3 : wB.cell? ⟨x8, 3, none⟩ = some (.int .u32 (V 3)) := (B8.out.fine fAB).cell 3
      have e4 : wB.cell? ⟨x8, 4, none⟩ = some (.int .u32 (V 4)) := (B8.out.fine fAB).cell 4
      have e5 : wB.cell? ⟨x8, 5, none⟩ = some (.int .i64 (V 5)) := (B8.out.fine fAB).cell 5
      have e6 : wB.cell? ⟨x8, 6, none⟩ = some (.int .i64 (V 6)) := (B8.out.fine fAB).cell 6
      have e7 : wB.cell? ⟨x8, 7, none⟩ = some (.bool (decide (V 7 = 1))) := (B8.out.fine fAB).cell 7
      have e8 : wB.cell? ⟨x8, 8, none⟩ = some (.bool (decide (V 8 = 1))) := (B8.out.fine fAB).cell 8
      have e9 : wB.cell? ⟨x8, 9, none⟩ = some (.int .i64 (V 9)) := (B8.out.fine fAB).cell 9
      have e10 : wB.cell? ⟨x8, 10, none⟩ = some (.bool (decide (V 10 = 1))) := (B8.out.fine fAB).cell 10
      have e11 : wB.cell? ⟨x8, 11, none⟩ = some (.int .i64 (V 11)) := (B8.out.fine fAB).cell 11
      have e12 : wB.cell? ⟨x8, 12, none⟩ = some (.int .i64 (V 12)) := (B8.out.fine fAB).cell 12
      have e13 : wB.cell? ⟨x8, 13, none⟩ = some (.bool (decide (V 13 = 1))) := (B8.out.fine fAB).cell 13
      go_wp2_with fail
      refine (refRight_any V HVk.out wB).mono ?_
      rintro x wC ⟨rfl, fC⟩
      rw [← right_ref HVk.out, HQ.out]
      have fABC := fAB.trans fC
      clear e0 e1 e2 e3 e4 e5 e6 e7 e8 e9 e10 e11 e12 e13
      have g0 : wC.cell? ⟨x8, 0, none⟩ = some (.int .i64 (V 0)) := (B8.out.fine fABC).cell 0
      have g1 : wC.cell? ⟨x8, 1, none⟩ = some (.int .u64 (V 1)) := (B8.out.fine fABC).cell 1
      have g2 : wC.cell? ⟨x8, 2, none⟩ = some (.int .u64 (V 2)) := (B8.out.fine fABC).cell 2
      have g3 : wC.cell? ⟨x8, 3, none⟩ = some (.int .u32 (V 3)) := (B8.out.fine fABC).cell 3
      have g4 : wC.cell? ⟨x8, 4, none⟩ = some (.int .u32 (V 4)) := (B8.out.fine fABC).cell 4
      have g5 : wC.cell? ⟨x8, 5, none⟩ = some (.int .i64 (V 5)) := (B8.out.fine fABC).cell 5
      have g6 : wC.cell? ⟨x8, 6, none⟩ = some (.int .i64 (V 6)) := (B8.out.fine fABC).cell 6
      have g7 : wC.cell? ⟨x8, 7, none⟩ = some (.bool (decide (V 7 = 1))) := (B8.out.fine fABC).cell 7
      have g8 : wC.cell? ⟨x8, 8, none⟩ = some (.bool (decide (V 8 = 1))) := (B8.out.fine fABC).cell 8
      have g9 : wC.cell? ⟨x8, 9, none⟩ = some (.int .i64 (V 9)) := (B8.out.fine fABC).cell 9
      have g10 : wC.cell? ⟨x8, 10, none⟩ = some (.bool (decide (V 10 = 1))) := (B8.out.fine fABC).cell 10
      have g11 : wC.cell? ⟨x8, 11, none⟩ = some (.int .i64 (V 11)) := (B8.out.fine fABC).cell 11
      have g12 : wC.cell? ⟨x8, 12, none⟩ = some (.int .i64 (V 12)) := (B8.out.fine fABC).cell 12
      have g13 : wC.cell? ⟨x8, 13, none⟩ = some (.bool (decide (V 13 = 1))) := (B8.out.fine fABC).cell 13
      go_wp2_with fail
      refine (refBytes_any V HVk.out wC).mono ?_
      rintro x wD ⟨vD, rfl, oD, fD⟩
      obtain ⟨AD, cD, rfl, bD, _⟩ := oD.form
      have hPD := Lib.hid ((hR.out.1.fine f8).fine (fABC.trans fD))
      have HBD := Lib.hid bD; clear bD oD
      have hlen1 : Hid (((l.take i).flatMap optB).length + (optB V).length ≤ 100000000) := Lib.hid (by have := optB_len V; have := pre_len l i (by have := hlc.out; omega); omega)
      clear g0 g1 g2 g3 g4 g5 g6 g7 g8 g9 g10 g11 g12 g13
      go_wp2_with (at_builtin; refine wpList_appB rfl (.tmp 40) (.tmp 42) rfl w0.heap.size _ _ rfl hPD.out.2 AD _ cD _ rfl rfl HBD.out (by have := hlen1.out; omega) (by have := hPD.out.1.size; omega) ?_; intro v' w9 ho9 hk9 _ _)
      have HN : Hid (PutSt w0 v' ((l.take (i + 1)).flatMap optB) w9 ∧ True) := Lib.hid ⟨⟨hPD.out.1.kept hk9 (fun x hx e => by omega), by rw [List.take_add_one, HV0.out, List.flatMap_append]; simpa using ho9⟩, trivial⟩
      exact ⟨⟨i + 1, true, _, hlt, by simp, rfl, rfl, HN⟩, by simp only [intOf]; omega⟩
    · have hie : i = l.length := by omega
      subst hie
      have hPE := hR.out.1
      rw [List.take_length, HBS.out] at hPE
      obtain ⟨Aw, cw, rfl, hbw⟩ := hPE.form
      have HBW := Lib.hid hbw
      have fwr := hPE.1
      have HFW := Lib.hid (HF0.out.trans fwr)
      have hL : Hid (bs.length ≤ 1000000) := Lib.hid (by
        have := flatMap_len optB 49 l (fun V _ => optB_len V)
        rw [HBS.out] at this
        omega)
      clear hbw hPE hR hNil
      go_wp2_with fail
      refine (same_n Av Aw bs.length bs.length cv cw bs bs wr (HBV.out.fine fwr) HBW.out rfl rfl (by have := hL.out; omega)).mono ?_
      rintro x w2 ⟨rfl, f2⟩
      rw [decide_eq_true (rfl : bs = bs)]
      have HF2 := Lib.hid (HFW.out.trans f2)
      have HB2 : Hid (Fine w w2 ∧ bs.length = ((l.drop 0).flatMap optB).length ∧ BS w2 Av cv ((l.drop 0).flatMap optB)) := Lib.hid ⟨HF2.out, by rw [List.drop_zero, HBS.out], by rw [List.drop_zero, HBS.out]; exact (HBV.out.fine fwr).fine f2⟩
      obtain ⟨L, hLL⟩ : ∃ L, bs.length = L := ⟨_, rfl⟩
      rw [hLL] at HB2 ⊢
      clear hLL
      go_wp2_with fail
      go_loopw [64, 3] (fun s64 s3 wq => ∃ (i n c' : Nat) (A' : Option Addr), i ≤ l.length ∧ s64 = .int .i64 i ∧ s3 = .slice A' n c' ∧ Hid (Fine w wq ∧ n = ((l.drop i).flatMap optB).length ∧ BS wq A' c' ((l.drop i).flatMap optB))) (fun s64 _ _ => l.length - (intOf s64).toNat)
      case atStart => exact ⟨0, L, cv, Av, Nat.zero_le _, rfl, rfl, HB2⟩
      case round =>
        obtain ⟨i, n, c', A', hi, rfl, rfl, hR⟩ := hrel
        by_cases hlt : i < l.length
        · skip
          obtain ⟨V, hV0⟩ : ∃ V, l[i]? = some V := ⟨l[i], List.getElem?_eq_getElem hlt⟩
          obtain ⟨b, o, rfl, hb, hc⟩ := (H.out.fine hR.out.1).at_ hV0
          have c0 := hc 0 (.int .i64 (V 0)) rfl
          have c1 := hc 1 (.int .u64 (V 1)) rfl
          have c2 := hc 2 (.int .u64 (V 2)) rfl
          have c3 := hc 3 (.int .u32 (V 3)) rfl
          have c4 := hc 4 (.int .u32 (V 4)) rfl
          have c5 := hc 5 (.int .i64 (V 5)) rfl
          have c6 := hc 6 (.int .i64 (V 6)) rfl
          have c7 := hc 7 (.bool (decide (V 7 = 1))) rfl
          have c8 := hc 8 (.bool (decide (V 8 = 1))) rfl
          have c9 := hc 9 (.int .i64 (V 9)) rfl
          have c10 := hc 10 (.bool (decide (V 10 = 1))) rfl
          have c11 := hc 11 (.int .i64 (V 11)) rfl
          have c12 := hc 12 (.int .i64 (V 12)) rfl
          have c13 := hc 13 (.bool (decide (V 13 = 1))) rfl
          simp only [← Nat.add_assoc, Nat.add_zero] at c0 c1 c2 c3 c4 c5 c6 c7 c8 c9 c10 c11 c12 c13
          have HV0 := Lib.hid hV0
          have HVk := Lib.hid (hV.out V (List.mem_of_getElem? hV0))
          clear hc hV0
          have E : eqB (V 0) (V 0) (V 1) (V 1) (V 2) (V 2) (V 3) (V 3) (V 4) (V 4) (V 5) (V 5) (V 6) (V 6) (decide (V 7 = 1)) (decide (V 7 = 1)) (decide (V 8 = 1)) (decide (V 8 = 1)) (V 9) (V 9) (decide (V 10 = 1)) (decide (V 10 = 1)) (V 11) (V 11) (V 12) (V 12) (decide (V 13 = 1)) (decide (V 13 = 1)) = true := by simp [eqB]
          have hgp := get_put HVk.out (hall.out V (List.mem_of_getElem? HV0.out)) ((l.drop (i + 1)).flatMap optB)
          have hdr : (l.drop i).flatMap optB = optB V ++ (l.drop (i + 1)).flatMap optB := by
            rw [List.drop_eq_getElem_cons hlt, List.flatMap_cons]
            have := HV0.out
            rw [List.getElem?_eq_getElem hlt] at this
            injection this with this
            rw [this]
          rw [← hdr] at hgp
          obtain ⟨V', hG, hVV⟩ := hgp
          have HG := Lib.hid hG
          have HVV := Lib.hid (optL_congr hVV)
          have hln : Hid (((l.drop i).flatMap optB).length ≤ 10000000) := Lib.hid (by
            have := flatMap_len optB 49 (l.drop i) (fun V _ => optB_len V)
            rw [List.length_drop] at this
            omega)
          clear hG hVV hdr
          go_wp2_with fail
          have b8 : Blk (wr.alloc (.cells #[.int .i64 (V 0), .int .u64 (V 1), .int .u64 (V 2), .int .u32 (V 3), .int .u32 (V 4), .int .i64 (V 5), .int .i64 (V 6), .bool (decide (V 7 = 1)), .bool (decide (V 8 = 1)), .int .i64 (V 9), .bool (decide (V 10 = 1)), .int .i64 (V 11), .int .i64 (V 12), .bool (decide (V 13 = 1))] 56)) wr.heap.size 56 (optL V).toArray := Blk.new wr 56 _
          have f8 : Fine wr (wr.alloc (.cells #[.int .i64 (V 0), .int .u64 (V 1), .int .u64 (V 2), .int .u32 (V 3), .int .u32 (V 4), .int .i64 (V 5), .int .i64 (V 6), .bool (decide (V 7 = 1)), .bool (decide (V 8 = 1)), .int .i64 (V 9), .bool (decide (V 10 = 1)), .int .i64 (V 11), .int .i64 (V 12), .bool (decide (V 13 = 1))] 56)) := (Fine.refl wr).alloc _
          clear c0 c1 c2 c3 c4 c5 c6 c7 c8 c9 c10 c11 c12 c13
          obtain ⟨x8, hx8⟩ : ∃ x, wr.heap.size = x := ⟨_, rfl⟩
          generalize (wr.alloc (.cells #[.int .i64 (V 0), .int .u64 (V 1), .int .u64 (V 2), .int .u32 (V 3), .int .u32 (V 4), .int .i64 (V 5), .int .i64 (V 6), .bool (decide (V 7 = 1)), .bool (decide (V 8 = 1)), .int .i64 (V 9), .bool (decide (V 10 = 1)), .int .i64 (V 11), .int .i64 (V 12), .bool (decide (V 13 = 1))] 56)) = w8 at b8 f8 ⊢
          rw [hx8] at b8 ⊢
          clear hx8
          have B8 := Lib.hid b8; clear b8
          refine (get_n A' n c' ((l.drop i).flatMap optB) hR.out.2.1 hln.out w8 (hR.out.2.2.fine f8)).mono ?_
          rintro x w9 hgo
          obtain ⟨A9, c9, rfl, b9, f9⟩ := hgo.as_ HG.out
          rw [HVV.out]
          clear hgo
          have HN : Hid (Fine w (w9.alloc (.cells #[.int .i64 (V 0), .int .u64 (V 1), .int .u64 (V 2), .int .u32 (V 3), .int .u32 (V 4), .int .i64 (V 5), .int .i64 (V 6), .bool (decide (V 7 = 1)), .bool (decide (V 8 = 1)), .int .i64 (V 9), .bool (decide (V 10 = 1)), .int .i64 (V 11), .int .i64 (V 12), .bool (decide (V 13 = 1))] 56)) ∧ ((l.drop (i + 1)).flatMap optB).length = ((l.drop (i + 1)).flatMap optB).length ∧ BS (w9.alloc (.cells #[.int .i64 (V 0), .int .u64 (V 1), .int .u64 (V 2), .int .u32 (V 3), .int .u32 (V 4), .int .i64 (V 5), .int .i64 (V 6), .bool (decide (V 7 = 1)), .bool (decide (V 8 = 1)), .int .i64 (V 9), .bool (decide (V 10 = 1)), .int .i64 (V 11), .int .i64 (V 12), .bool (decide (V 13 = 1))] 56)) A9 c9 ((l.drop (i + 1)).flatMap optB)) := Lib.hid ⟨((hR.out.1.trans f8).trans f9).alloc _, rfl, b9.fine ((Fine.refl w9).alloc _)⟩
          obtain ⟨L9, hL9⟩ : ∃ L9, ((l.drop (i + 1)).flatMap optB).length = L9 := ⟨_, rfl⟩
          have HN2 : Hid (Fine w (w9.alloc (.cells #[.int .i64 (V 0), .int .u64 (V 1), .int .u64 (V 2), .int .u32 (V 3), .int .u32 (V 4), .int .i64 (V 5), .int .i64 (V 6), .bool (decide (V 7 = 1)), .bool (decide (V 8 = 1)), .int .i64 (V 9), .bool (decide (V 10 = 1)), .int .i64 (V 11), .int .i64 (V 12), .bool (decide (V 13 = 1))] 56)) ∧ L9 = ((l.drop (i + 1)).flatMap optB).length ∧ BS (w9.alloc (.cells #[.int .i64 (V 0), .int .u64 (V 1), .int .u64 (V 2), .int .u32 (V 3), .int .u32 (V 4), .int .i64 (V 5), .int .i64 (V 6), .bool (decide (V 7 = 1)), .bool (decide (V 8 = 1)), .int .i64 (V 9), .bool (decide (V 10 = 1)), .int .i64 (V 11), .int .i64 (V 12), .bool (decide (V 13 = 1))] 56)) A9 c9 ((l.drop (i + 1)).flatMap optB)) := Lib.hid (by obtain ⟨q1, q2, q3⟩ := HN.out; exact ⟨q1, hL9.symm, q3⟩)
          rw [hL9]
          clear hL9 b9
          have k0 : ∀ o, (w9.alloc o).cell? ⟨x8, 0, none⟩ = some (.int .i64 (V 0)) := fun o => ((B8.out.fine f9).alloc o).cell 0
          have k1 : ∀ o, (w9.alloc o).cell? ⟨x8, 1, none⟩ = some (.int .u64 (V 1)) := fun o => ((B8.out.fine f9).alloc o).cell 1
          have k2 : ∀ o, (w9.alloc o).cell? ⟨x8, 2, none⟩ = some (.int .u64 (V 2)) := fun o => ((B8.out.fine f9).alloc o).cell 2
          have k3 : ∀ o, (w9.alloc o).cell? ⟨x8, 3, none⟩ = some (.int .u32 (V 3)) := fun o => ((B8.out.fine f9).alloc o).cell 3
          have k4 : ∀ o, (w9.alloc o).cell? ⟨x8, 4, none⟩ = some (.int .u32 (V 4)) := fun o => ((B8.out.fine f9).alloc o).cell 4
          have k5 : ∀ o, (w9.alloc o).cell? ⟨x8, 5, none⟩ = some (.int .i64 (V 5)) := fun o => ((B8.out.fine f9).alloc o).cell 5
          have k6 : ∀ o, (w9.alloc o).cell? ⟨x8, 6, none⟩ = some (.int .i64 (V 6)) := fun o => ((B8.out.fine f9).alloc o).cell 6
          have k7 : ∀ o, (w9.alloc o).cell? ⟨x8, 7, none⟩ = some (.bool (decide (V 7 = 1))) := fun o => ((B8.out.fine f9).alloc o).cell 7
          have k8 : ∀ o, (w9.alloc o).cell? ⟨x8, 8, none⟩ = some (.bool (decide (V 8 = 1))) := fun o => ((B8.out.fine f9).alloc o).cell 8
          have k9 : ∀ o, (w9.alloc o).cell? ⟨x8, 9, none⟩ = some (.int .i64 (V 9)) := fun o => ((B8.out.fine f9).alloc o).cell 9
          have k10 : ∀ o, (w9.alloc o).cell? ⟨x8, 10, none⟩ = some (.bool (decide (V 10 = 1))) := fun o => ((B8.out.fine f9).alloc o).cell 10
          have k11 : ∀ o, (w9.alloc o).cell? ⟨x8, 11, none⟩ = some (.int .i64 (V 11)) := fun o => ((B8.out.fine f9).alloc o).cell 11
          have k12 : ∀ o, (w9.alloc o).cell? ⟨x8, 12, none⟩ = some (.int .i64 (V 12)) := fun o => ((B8.out.fine f9).alloc o).cell 12
          have k13 : ∀ o, (w9.alloc o).cell? ⟨x8, 13, none⟩ = some (.bool (decide (V 13 = 1))) := fun o => ((B8.out.fine f9).alloc o).cell 13
          go_wp2_with fail
          exact ⟨⟨i + 1, L9, c9, A9, hlt, by simp, rfl, HN2⟩, by simp only [intOf]; omega⟩
        · have hie : i = l.length := by omega
          have hn0 : n = 0 := by rw [hR.out.2.1, hie, List.drop_length]; rfl
          have fe := hR.out.1
          subst hn0
          clear hR
          go_wp2_with fail
          go_ret
          exact ⟨rfl, fe⟩
set_option maxHeartbeats 8000000 in
set_option maxRecDepth 100000 in
theorem puts_bad (A : Option Addr) (c : Nat) (l : List (Nat → Int)) (w : World) (h : RS layO w A c l) (hlc : Hid (l.length ≤ 50)) (hV : Hid (∀ V ∈ l, OkV V)) (hbad : Hid (l.all rightF = false)) : Calls Try.prog 14 #[.slice A l.length c] w fun q w' => q = .returned (.bool true) ∧ Fine w w' := by
  have H := Lib.hid h; clear h
  have hl50 : l.length ≤ 50 := hlc.out
  go_enter Try.func14, Try.ntmps14
  go_wp2_with fail
  refine (optWakes_any _).mono ?_
  rintro x w1 ⟨rfl, f1⟩
  go_wp2_with fail
  refine (optPut_any A c l (by omega) hV.out w1 (H.out.fine f1)).mono ?_
  rintro x w0 ⟨f0, ⟨v, hg, rfl, hv⟩ | ⟨_, rfl⟩⟩
  case inl =>
    have h1 := List.all_eq_true.2 hg
    rw [hbad.out] at h1
    cases h1
  have F0 := f1.trans f0
  have HF0 := Lib.hid F0
  have hsz0 := F0.size
  have hNil : Hid (PutSt w0 (.slice none 0 0) ((l.take 0).flatMap optB) w0 ∧ true = (l.take 0).all rightF) := Lib.hid ⟨⟨Fine.refl _, by simpa using OwnB.nil_ w0 _⟩, rfl⟩
  clear F0 f1 f0
  go_wp2_with fail
  go_loopw [26, 6, 5] (fun s26 s6 s5 wr => ∃ (i : Nat) (t : Bool) (v5 : Value), i ≤ l.length ∧ s26 = .int .i64 i ∧ s6 = .bool t ∧ s5 = v5 ∧ Hid (PutSt w0 v5 ((l.take i).flatMap optB) wr ∧ t = (l.take i).all rightF)) (fun s26 _ _ _ => l.length - (intOf s26).toNat)
  case atStart => exact ⟨0, true, _, Nat.zero_le _, rfl, rfl, rfl, hNil⟩
  case round =>
    obtain ⟨i, t, v5, hi, rfl, rfl, rfl, hR⟩ := hrel
    by_cases hlt : i < l.length
    · skip
      obtain ⟨V, hV0⟩ : ∃ V, l[i]? = some V := ⟨l[i], List.getElem?_eq_getElem hlt⟩
      obtain ⟨b, o, rfl, hb, hc⟩ := (H.out.fine (HF0.out.trans hR.out.1.1)).at_ hV0
      have c0 := hc 0 (.int .i64 (V 0)) rfl
      have c1 := hc 1 (.int .u64 (V 1)) rfl
      have c2 := hc 2 (.int .u64 (V 2)) rfl
      have c3 := hc 3 (.int .u32 (V 3)) rfl
      have c4 := hc 4 (.int .u32 (V 4)) rfl
      have c5 := hc 5 (.int .i64 (V 5)) rfl
      have c6 := hc 6 (.int .i64 (V 6)) rfl
      have c7 := hc 7 (.bool (decide (V 7 = 1))) rfl
      have c8 := hc 8 (.bool (decide (V 8 = 1))) rfl
      have c9 := hc 9 (.int .i64 (V 9)) rfl
      have c10 := hc 10 (.bool (decide (V 10 = 1))) rfl
      have c11 := hc 11 (.int .i64 (V 11)) rfl
      have c12 := hc 12 (.int .i64 (V 12)) rfl
      have c13 := hc 13 (.bool (decide (V 13 = 1))) rfl
      simp only [← Nat.add_assoc, Nat.add_zero] at c0 c1 c2 c3 c4 c5 c6 c7 c8 c9 c10 c11 c12 c13
      have HV0 := Lib.hid hV0
      have HVk := Lib.hid (hV.out V (List.mem_of_getElem? hV0))
      clear hc hV0
      obtain ⟨q, hq⟩ : ∃ q, rightF V = q := ⟨_, rfl⟩
      have HQ := Lib.hid hq; clear hq
      go_wp2_with fail
      have b8 : Blk (wr.alloc (.cells #[.int .i64 (V 0), .int .u64 (V 1), .int .u64 (V 2), .int .u32 (V 3), .int .u32 (V 4), .int .i64 (V 5), .int .i64 (V 6), .bool (decide (V 7 = 1)), .bool (decide (V 8 = 1)), .int .i64 (V 9), .bool (decide (V 10 = 1)), .int .i64 (V 11), .int .i64 (V 12), .bool (decide (V 13 = 1))] 56)) wr.heap.size 56 (optL V).toArray := Blk.new wr 56 _
      have f8 : Fine wr (wr.alloc (.cells #[.int .i64 (V 0), .int .u64 (V 1), .int .u64 (V 2), .int .u32 (V 3), .int .u32 (V 4), .int .i64 (V 5), .int .i64 (V 6), .bool (decide (V 7 = 1)), .bool (decide (V 8 = 1)), .int .i64 (V 9), .bool (decide (V 10 = 1)), .int .i64 (V 11), .int .i64 (V 12), .bool (decide (V 13 = 1))] 56)) := (Fine.refl wr).alloc _
      clear c0 c1 c2 c3 c4 c5 c6 c7 c8 c9 c10 c11 c12 c13
      obtain ⟨x8, hx8⟩ : ∃ x, wr.heap.size = x := ⟨_, rfl⟩
      generalize (wr.alloc (.cells #[.int .i64 (V 0), .int .u64 (V 1), .int .u64 (V 2), .int .u32 (V 3), .int .u32 (V 4), .int .i64 (V 5), .int .i64 (V 6), .bool (decide (V 7 = 1)), .bool (decide (V 8 = 1)), .int .i64 (V 9), .bool (decide (V 10 = 1)), .int .i64 (V 11), .int .i64 (V 12), .bool (decide (V 13 = 1))] 56)) = w8 at b8 f8 ⊢
      rw [hx8] at b8 ⊢
      clear hx8
      have B8 := Lib.hid b8; clear b8
      rcases q with _ | _ <;> rcases t with _ | _
      · skip
        have HK : Hid (∀ w', Fine w8 w' → (fun w' => w'.cell? ⟨x8, 0, none⟩ = some (.int .i64 (V 0)) ∧ w'.cell? ⟨x8, 1, none⟩ = some (.int .u64 (V 1)) ∧ w'.cell? ⟨x8, 2, none⟩ = some (.int .u64 (V 2)) ∧ w'.cell? ⟨x8, 3, none⟩ = some (.int .u32 (V 3)) ∧ w'.cell? ⟨x8, 4, none⟩ = some (.int .u32 (V 4)) ∧ w'.cell? ⟨x8, 5, none⟩ = some (.int .i64 (V 5)) ∧ w'.cell? ⟨x8, 6, none⟩ = some (.int .i64 (V 6)) ∧ w'.cell? ⟨x8, 7, none⟩ = some (.bool (decide (V 7 = 1))) ∧ w'.cell? ⟨x8, 8, none⟩ = some (.bool (decide (V 8 = 1))) ∧ w'.cell? ⟨x8, 9, none⟩ = some (.int .i64 (V 9)) ∧ w'.cell? ⟨x8, 10, none⟩ = some (.bool (decide (V 10 = 1))) ∧ w'.cell? ⟨x8, 11, none⟩ = some (.int .i64 (V 11)) ∧ w'.cell? ⟨x8, 12, none⟩ = some (.int .i64 (V 12)) ∧ w'.cell? ⟨x8, 13, none⟩ = some (.bool (decide (V 13 = 1)))) w') := Lib.hid (fun w' hk => by
          have b := B8.out.fine hk
          exact ⟨b.cell 0, b.cell 1, b.cell 2, b.cell 3, b.cell 4, b.cell 5, b.cell 6, b.cell 7, b.cell 8, b.cell 9, b.cell 10, b.cell 11, b.cell 12, b.cell 13⟩)
        go_region_held3 (fun w' => w'.cell? ⟨x8, 0, none⟩ = some (.int .i64 (V 0)) ∧ w'.cell? ⟨x8, 1, none⟩ = some (.int .u64 (V 1)) ∧ w'.cell? ⟨x8, 2, none⟩ = some (.int .u64 (V 2)) ∧ w'.cell? ⟨x8, 3, none⟩ = some (.int .u32 (V 3)) ∧ w'.cell? ⟨x8, 4, none⟩ = some (.int .u32 (V 4)) ∧ w'.cell? ⟨x8, 5, none⟩ = some (.int .i64 (V 5)) ∧ w'.cell? ⟨x8, 6, none⟩ = some (.int .i64 (V 6)) ∧ w'.cell? ⟨x8, 7, none⟩ = some (.bool (decide (V 7 = 1))) ∧ w'.cell? ⟨x8, 8, none⟩ = some (.bool (decide (V 8 = 1))) ∧ w'.cell? ⟨x8, 9, none⟩ = some (.int .i64 (V 9)) ∧ w'.cell? ⟨x8, 10, none⟩ = some (.bool (decide (V 10 = 1))) ∧ w'.cell? ⟨x8, 11, none⟩ = some (.int .i64 (V 11)) ∧ w'.cell? ⟨x8, 12, none⟩ = some (.int .i64 (V 12)) ∧ w'.cell? ⟨x8, 13, none⟩ = some (.bool (decide (V 13 = 1)))) ((with_reducible refine HK.out _ ?_; repeat (first | with_reducible refine Fine.trans ?_ fB | with_reducible refine Fine.trans ?_ fA | with_reducible refine Fine.drew ?_ | with_reducible exact Fine.refl _))) (first | (go_at_call 37; refine (right_any V HVk.out _).mono ?_; rintro x wA ⟨rfl, fA⟩; rw [HQ.out]) | (go_at_call 38; refine (refRight_any V HVk.out _).mono ?_; rintro x wB ⟨rfl, fB⟩; rw [← right_ref HVk.out, HQ.out]))
        have fAB := ((Fine.refl w8).drew.trans fA).trans fB
        have g0 : wB.cell? ⟨x8, 0, none⟩ = some (.int .i64 (V 0)) := (B8.out.fine fAB).cell 0
        have g1 : wB.cell? ⟨x8, 1, none⟩ = some (.int .u64 (V 1)) := (B8.out.fine fAB).cell 1
        have g2 : wB.cell? ⟨x8, 2, none⟩ = some (.int .u64 (V 2)) := (B8.out.fine fAB).cell 2
        have g3 : wB.cell? ⟨x8, 3, none⟩ = some (.int .u32 (V 3)) := (B8.out.fine fAB).cell 3
        have g4 : wB.cell? ⟨x8, 4, none⟩ = some (.int .u32 (V 4)) := (B8.out.fine fAB).cell 4
        have g5 : wB.cell? ⟨x8, 5, none⟩ = some (.int .i64 (V 5)) := (B8.out.fine fAB).cell 5
        have g6 : wB.cell? ⟨x8, 6, none⟩ = some (.int .i64 (V 6)) := (B8.out.fine fAB).cell 6
        have g7 : wB.cell? ⟨x8, 7, none⟩ = some (.bool (decide (V 7 = 1))) := (B8.out.fine fAB).cell 7
        have g8 : wB.cell? ⟨x8, 8, none⟩ = some (.bool (decide (V 8 = 1))) := (B8.out.fine fAB).cell 8
        have g9 : wB.cell? ⟨x8, 9, none⟩ = some (.int .i64 (V 9)) := (B8.out.fine fAB).cell 9
        have g10 : wB.cell? ⟨x8, 10, none⟩ = some (.bool (decide (V 10 = 1))) := (B8.out.fine fAB).cell 10
        have g11 : wB.cell? ⟨x8, 11, none⟩ = some (.int .i64 (V 11)) := (B8.out.fine fAB).cell 11
        have g12 : wB.cell? ⟨x8, 12, none⟩ = some (.int .i64 (V 12)) := (B8.out.fine fAB).cell 12
        have g13 : wB.cell? ⟨x8, 13, none⟩ = some (.bool (decide (V 13 = 1))) := (B8.out.fine fAB).cell 13
        go_wp2_with fail
        refine (refBytes_any V HVk.out wB).mono ?_
        rintro x wD ⟨vD, rfl, oD, fD⟩
        obtain ⟨AD, cD, rfl, bD, _⟩ := oD.form
        have hPD := Lib.hid ((hR.out.1.fine f8).fine (fAB.trans fD))
        have HBD := Lib.hid bD; clear bD oD
        have hlen1 : Hid (((l.take i).flatMap optB).length + (optB V).length ≤ 100000000) := Lib.hid (by have := optB_len V; have := pre_len l i (by have := hlc.out; omega); omega)
        clear g0 g1 g2 g3 g4 g5 g6 g7 g8 g9 g10 g11 g12 g13
        go_wp2_with (at_builtin; refine wpList_appB rfl (.tmp 40) (.tmp 42) rfl w0.heap.size _ _ rfl hPD.out.2 AD _ cD _ rfl rfl HBD.out (by have := hlen1.out; omega) (by have := hPD.out.1.size; omega) ?_; intro v' w9 ho9 hk9 _ _)
        have HN : Hid (PutSt w0 v' ((l.take (i + 1)).flatMap optB) w9 ∧ false = (l.take (i + 1)).all rightF) := Lib.hid ⟨⟨hPD.out.1.kept hk9 (fun x hx e => by omega), by rw [List.take_add_one, HV0.out, List.flatMap_append]; simpa using ho9⟩, by rw [List.take_add_one, HV0.out, List.all_append, ← hR.out.2]; simp [HQ.out]⟩
        exact ⟨⟨i + 1, false, _, hlt, by simp, rfl, rfl, HN⟩, by simp only [intOf]; omega⟩
      · skip
        have HK : Hid (∀ w', Fine w8 w' → (fun w' => w'.cell? ⟨x8, 0, none⟩ = some (.int .i64 (V 0)) ∧ w'.cell? ⟨x8, 1, none⟩ = some (.int .u64 (V 1)) ∧ w'.cell? ⟨x8, 2, none⟩ = some (.int .u64 (V 2)) ∧ w'.cell? ⟨x8, 3, none⟩ = some (.int .u32 (V 3)) ∧ w'.cell? ⟨x8, 4, none⟩ = some (.int .u32 (V 4)) ∧ w'.cell? ⟨x8, 5, none⟩ = some (.int .i64 (V 5)) ∧ w'.cell? ⟨x8, 6, none⟩ = some (.int .i64 (V 6)) ∧ w'.cell? ⟨x8, 7, none⟩ = some (.bool (decide (V 7 = 1))) ∧ w'.cell? ⟨x8, 8, none⟩ = some (.bool (decide (V 8 = 1))) ∧ w'.cell? ⟨x8, 9, none⟩ = some (.int .i64 (V 9)) ∧ w'.cell? ⟨x8, 10, none⟩ = some (.bool (decide (V 10 = 1))) ∧ w'.cell? ⟨x8, 11, none⟩ = some (.int .i64 (V 11)) ∧ w'.cell? ⟨x8, 12, none⟩ = some (.int .i64 (V 12)) ∧ w'.cell? ⟨x8, 13, none⟩ = some (.bool (decide (V 13 = 1)))) w') := Lib.hid (fun w' hk => by
          have b := B8.out.fine hk
          exact ⟨b.cell 0, b.cell 1, b.cell 2, b.cell 3, b.cell 4, b.cell 5, b.cell 6, b.cell 7, b.cell 8, b.cell 9, b.cell 10, b.cell 11, b.cell 12, b.cell 13⟩)
        go_region_held3 (fun w' => w'.cell? ⟨x8, 0, none⟩ = some (.int .i64 (V 0)) ∧ w'.cell? ⟨x8, 1, none⟩ = some (.int .u64 (V 1)) ∧ w'.cell? ⟨x8, 2, none⟩ = some (.int .u64 (V 2)) ∧ w'.cell? ⟨x8, 3, none⟩ = some (.int .u32 (V 3)) ∧ w'.cell? ⟨x8, 4, none⟩ = some (.int .u32 (V 4)) ∧ w'.cell? ⟨x8, 5, none⟩ = some (.int .i64 (V 5)) ∧ w'.cell? ⟨x8, 6, none⟩ = some (.int .i64 (V 6)) ∧ w'.cell? ⟨x8, 7, none⟩ = some (.bool (decide (V 7 = 1))) ∧ w'.cell? ⟨x8, 8, none⟩ = some (.bool (decide (V 8 = 1))) ∧ w'.cell? ⟨x8, 9, none⟩ = some (.int .i64 (V 9)) ∧ w'.cell? ⟨x8, 10, none⟩ = some (.bool (decide (V 10 = 1))) ∧ w'.cell? ⟨x8, 11, none⟩ = some (.int .i64 (V 11)) ∧ w'.cell? ⟨x8, 12, none⟩ = some (.int .i64 (V 12)) ∧ w'.cell? ⟨x8, 13, none⟩ = some (.bool (decide (V 13 = 1)))) ((with_reducible refine HK.out _ ?_; repeat (first | with_reducible refine Fine.trans ?_ fB | with_reducible refine Fine.trans ?_ fA | with_reducible refine Fine.drew ?_ | with_reducible exact Fine.refl _))) (first | (go_at_call 37; refine (right_any V HVk.out _).mono ?_; rintro x wA ⟨rfl, fA⟩; rw [HQ.out]) | (go_at_call 38; refine (refRight_any V HVk.out _).mono ?_; rintro x wB ⟨rfl, fB⟩; rw [← right_ref HVk.out, HQ.out]))
        have fAB := ((Fine.refl w8).drew.trans fA).trans fB
        have e0 : wB.cell? ⟨x8, 0, none⟩ = some (.int .i64 (V 0)) := (B8.out.fine fAB).cell 0
        have e1 : wB.cell? ⟨x8, 1, none⟩ = some (.int .u64 (V 1)) := (B8.out.fine fAB).cell 1
        have e2 : wB.cell? ⟨x8, 2, none⟩ = some (.int .u64 (V 2)) := (B8.out.fine fAB).cell 2
        have e3 : wB.cell? ⟨x8, 3, none⟩ = some (.int .u32 (V 3)) := (B8.out.fine fAB).cell 3
        have e4 : wB.cell? ⟨x8, 4, none⟩ = some (.int .u32 (V 4)) := (B8.out.fine fAB).cell 4
        have e5 : wB.cell? ⟨x8, 5, none⟩ = some (.int .i64 (V 5)) := (B8.out.fine fAB).cell 5
        have e6 : wB.cell? ⟨x8, 6, none⟩ = some (.int .i64 (V 6)) := (B8.out.fine fAB).cell 6
        have e7 : wB.cell? ⟨x8, 7, none⟩ = some (.bool (decide (V 7 = 1))) := (B8.out.fine fAB).cell 7
        have e8 : wB.cell? ⟨x8, 8, none⟩ = some (.bool (decide (V 8 = 1))) := (B8.out.fine fAB).cell 8
        have e9 : wB.cell? ⟨x8, 9, none⟩ = some (.int .i64 (V 9)) := (B8.out.fine fAB).cell 9
        have e10 : wB.cell? ⟨x8, 10, none⟩ = some (.bool (decide (V 10 = 1))) := (B8.out.fine fAB).cell 10
        have e11 : wB.cell? ⟨x8, 11, none⟩ = some (.int .i64 (V 11)) := (B8.out.fine fAB).cell 11
        have e12 : wB.cell? ⟨x8, 12, none⟩ = some (.int .i64 (V 12)) := (B8.out.fine fAB).cell 12
        have e13 : wB.cell? ⟨x8, 13, none⟩ = some (.bool (decide (V 13 = 1))) := (B8.out.fine fAB).cell 13
        go_wp2_with fail
        refine (refRight_any V HVk.out wB).mono ?_
        rintro x wC ⟨rfl, fC⟩
        rw [← right_ref HVk.out, HQ.out]
        have fABC := fAB.trans fC
        clear e0 e1 e2 e3 e4 e5 e6 e7 e8 e9 e10 e11 e12 e13
        have g0 : wC.cell? ⟨x8, 0, none⟩ = some (.int .i64 (V 0)) := (B8.out.fine fABC).cell 0
        have g1 : wC.cell? ⟨x8, 1, none⟩ = some (.int .u64 (V 1)) := (B8.out.fine fABC).cell 1
        have g2 : wC.cell? ⟨x8, 2, none⟩ = some (.int .u64 (V 2)) := (B8.out.fine fABC).cell 2
        have g3 : wC.cell? ⟨x8, 3, none⟩ = some (.int .u32 (V 3)) := (B8.out.fine fABC).cell 3
        have g4 : wC.cell? ⟨x8, 4, none⟩ = some (.int .u32 (V 4)) := (B8.out.fine fABC).cell 4
        have g5 : wC.cell? ⟨x8, 5, none⟩ = some (.int .i64 (V 5)) := (B8.out.fine fABC).cell 5
        have g6 : wC.cell? ⟨x8, 6, none⟩ = some (.int .i64 (V 6)) := (B8.out.fine fABC).cell 6
        have g7 : wC.cell? ⟨x8, 7, none⟩ = some (.bool (decide (V 7 = 1))) := (B8.out.fine fABC).cell 7
        have g8 : wC.cell? ⟨x8, 8, none⟩ = some (.bool (decide (V 8 = 1))) := (B8.out.fine fABC).cell 8
        have g9 : wC.cell? ⟨x8, 9, none⟩ = some (.int .i64 (V 9)) := (B8.out.fine fABC).cell 9
        have g10 : wC.cell? ⟨x8, 10, none⟩ = some (.bool (decide (V 10 = 1))) := (B8.out.fine fABC).cell 10
        have g11 : wC.cell? ⟨x8, 11, none⟩ = some (.int .i64 (V 11)) := (B8.out.fine fABC).cell 11
        have g12 : wC.cell? ⟨x8, 12, none⟩ = some (.int .i64 (V 12)) := (B8.out.fine fABC).cell 12
        have g13 : wC.cell? ⟨x8, 13, none⟩ = some (.bool (decide (V 13 = 1))) := (B8.out.fine fABC).cell 13
        go_wp2_with fail
        refine (refBytes_any V HVk.out wC).mono ?_
        rintro x wD ⟨vD, rfl, oD, fD⟩
        obtain ⟨AD, cD, rfl, bD, _⟩ := oD.form
        have hPD := Lib.hid ((hR.out.1.fine f8).fine (fABC.trans fD))
        have HBD := Lib.hid bD; clear bD oD
        have hlen1 : Hid (((l.take i).flatMap optB).length + (optB V).length ≤ 100000000) := Lib.hid (by have := optB_len V; have := pre_len l i (by have := hlc.out; omega); omega)
        clear g0 g1 g2 g3 g4 g5 g6 g7 g8 g9 g10 g11 g12 g13
        go_wp2_with (at_builtin; refine wpList_appB rfl (.tmp 40) (.tmp 42) rfl w0.heap.size _ _ rfl hPD.out.2 AD _ cD _ rfl rfl HBD.out (by have := hlen1.out; omega) (by have := hPD.out.1.size; omega) ?_; intro v' w9 ho9 hk9 _ _)
        have HN : Hid (PutSt w0 v' ((l.take (i + 1)).flatMap optB) w9 ∧ false = (l.take (i + 1)).all rightF) := Lib.hid ⟨⟨hPD.out.1.kept hk9 (fun x hx e => by omega), by rw [List.take_add_one, HV0.out, List.flatMap_append]; simpa using ho9⟩, by rw [List.take_add_one, HV0.out, List.all_append, ← hR.out.2]; simp [HQ.out]⟩
        exact ⟨⟨i + 1, false, _, hlt, by simp, rfl, rfl, HN⟩, by simp only [intOf]; omega⟩
      · skip
        have HK : Hid (∀ w', Fine w8 w' → (fun w' => w'.cell? ⟨x8, 0, none⟩ = some (.int .i64 (V 0)) ∧ w'.cell? ⟨x8, 1, none⟩ = some (.int .u64 (V 1)) ∧ w'.cell? ⟨x8, 2, none⟩ = some (.int .u64 (V 2)) ∧ w'.cell? ⟨x8, 3, none⟩ = some (.int .u32 (V 3)) ∧ w'.cell? ⟨x8, 4, none⟩ = some (.int .u32 (V 4)) ∧ w'.cell? ⟨x8, 5, none⟩ = some (.int .i64 (V 5)) ∧ w'.cell? ⟨x8, 6, none⟩ = some (.int .i64 (V 6)) ∧ w'.cell? ⟨x8, 7, none⟩ = some (.bool (decide (V 7 = 1))) ∧ w'.cell? ⟨x8, 8, none⟩ = some (.bool (decide (V 8 = 1))) ∧ w'.cell? ⟨x8, 9, none⟩ = some (.int .i64 (V 9)) ∧ w'.cell? ⟨x8, 10, none⟩ = some (.bool (decide (V 10 = 1))) ∧ w'.cell? ⟨x8, 11, none⟩ = some (.int .i64 (V 11)) ∧ w'.cell? ⟨x8, 12, none⟩ = some (.int .i64 (V 12)) ∧ w'.cell? ⟨x8, 13, none⟩ = some (.bool (decide (V 13 = 1)))) w') := Lib.hid (fun w' hk => by
          have b := B8.out.fine hk
          exact ⟨b.cell 0, b.cell 1, b.cell 2, b.cell 3, b.cell 4, b.cell 5, b.cell 6, b.cell 7, b.cell 8, b.cell 9, b.cell 10, b.cell 11, b.cell 12, b.cell 13⟩)
        go_region_held3 (fun w' => w'.cell? ⟨x8, 0, none⟩ = some (.int .i64 (V 0)) ∧ w'.cell? ⟨x8, 1, none⟩ = some (.int .u64 (V 1)) ∧ w'.cell? ⟨x8, 2, none⟩ = some (.int .u64 (V 2)) ∧ w'.cell? ⟨x8, 3, none⟩ = some (.int .u32 (V 3)) ∧ w'.cell? ⟨x8, 4, none⟩ = some (.int .u32 (V 4)) ∧ w'.cell? ⟨x8, 5, none⟩ = some (.int .i64 (V 5)) ∧ w'.cell? ⟨x8, 6, none⟩ = some (.int .i64 (V 6)) ∧ w'.cell? ⟨x8, 7, none⟩ = some (.bool (decide (V 7 = 1))) ∧ w'.cell? ⟨x8, 8, none⟩ = some (.bool (decide (V 8 = 1))) ∧ w'.cell? ⟨x8, 9, none⟩ = some (.int .i64 (V 9)) ∧ w'.cell? ⟨x8, 10, none⟩ = some (.bool (decide (V 10 = 1))) ∧ w'.cell? ⟨x8, 11, none⟩ = some (.int .i64 (V 11)) ∧ w'.cell? ⟨x8, 12, none⟩ = some (.int .i64 (V 12)) ∧ w'.cell? ⟨x8, 13, none⟩ = some (.bool (decide (V 13 = 1)))) ((with_reducible refine HK.out _ ?_; repeat (first | with_reducible refine Fine.trans ?_ fB | with_reducible refine Fine.trans ?_ fA | with_reducible refine Fine.drew ?_ | with_reducible exact Fine.refl _))) (first | (go_at_call 37; refine (right_any V HVk.out _).mono ?_; rintro x wA ⟨rfl, fA⟩; rw [HQ.out]) | (go_at_call 38; refine (refRight_any V HVk.out _).mono ?_; rintro x wB ⟨rfl, fB⟩; rw [← right_ref HVk.out, HQ.out]))
        have fAB := ((Fine.refl w8).drew.trans fA).trans fB
        have g0 : wB.cell? ⟨x8, 0, none⟩ = some (.int .i64 (V 0)) := (B8.out.fine fAB).cell 0
        have g1 : wB.cell? ⟨x8, 1, none⟩ = some (.int .u64 (V 1)) := (B8.out.fine fAB).cell 1
        have g2 : wB.cell? ⟨x8, 2, none⟩ = some (.int .u64 (V 2)) := (B8.out.fine fAB).cell 2
        have g3 : wB.cell? ⟨x8, 3, none⟩ = some (.int .u32 (V 3)) := (B8.out.fine fAB).cell 3
        have g4 : wB.cell? ⟨x8, 4, none⟩ = some (.int .u32 (V 4)) := (B8.out.fine fAB).cell 4
        have g5 : wB.cell? ⟨x8, 5, none⟩ = some (.int .i64 (V 5)) := (B8.out.fine fAB).cell 5
        have g6 : wB.cell? ⟨x8, 6, none⟩ = some (.int .i64 (V 6)) := (B8.out.fine fAB).cell 6
        have g7 : wB.cell? ⟨x8, 7, none⟩ = some (.bool (decide (V 7 = 1))) := (B8.out.fine fAB).cell 7
        have g8 : wB.cell? ⟨x8, 8, none⟩ = some (.bool (decide (V 8 = 1))) := (B8.out.fine fAB).cell 8
        have g9 : wB.cell? ⟨x8, 9, none⟩ = some (.int .i64 (V 9)) := (B8.out.fine fAB).cell 9
        have g10 : wB.cell? ⟨x8, 10, none⟩ = some (.bool (decide (V 10 = 1))) := (B8.out.fine fAB).cell 10
        have g11 : wB.cell? ⟨x8, 11, none⟩ = some (.int .i64 (V 11)) := (B8.out.fine fAB).cell 11
        have g12 : wB.cell? ⟨x8, 12, none⟩ = some (.int .i64 (V 12)) := (B8.out.fine fAB).cell 12
        have g13 : wB.cell? ⟨x8, 13, none⟩ = some (.bool (decide (V 13 = 1))) := (B8.out.fine fAB).cell 13
        go_wp2_with fail
        refine (refBytes_any V HVk.out wB).mono ?_
        rintro x wD ⟨vD, rfl, oD, fD⟩
        obtain ⟨AD, cD, rfl, bD, _⟩ := oD.form
        have hPD := Lib.hid ((hR.out.1.fine f8).fine (fAB.trans fD))
        have HBD := Lib.hid bD; clear bD oD
        have hlen1 : Hid (((l.take i).flatMap optB).length + (optB V).length ≤ 100000000) := Lib.hid (by have := optB_len V; have := pre_len l i (by have := hlc.out; omega); omega)
        clear g0 g1 g2 g3 g4 g5 g6 g7 g8 g9 g10 g11 g12 g13
        go_wp2_with (at_builtin; refine wpList_appB rfl (.tmp 40) (.tmp 42) rfl w0.heap.size _ _ rfl hPD.out.2 AD _ cD _ rfl rfl HBD.out (by have := hlen1.out; omega) (by have := hPD.out.1.size; omega) ?_; intro v' w9 ho9 hk9 _ _)
        have HN : Hid (PutSt w0 v' ((l.take (i + 1)).flatMap optB) w9 ∧ false = (l.take (i + 1)).all rightF) := Lib.hid ⟨⟨hPD.out.1.kept hk9 (fun x hx e => by omega), by rw [List.take_add_one, HV0.out, List.flatMap_append]; simpa using ho9⟩, by rw [List.take_add_one, HV0.out, List.all_append, ← hR.out.2]; simp [HQ.out]⟩
        exact ⟨⟨i + 1, false, _, hlt, by simp, rfl, rfl, HN⟩, by simp only [intOf]; omega⟩
      · skip
        have HK : Hid (∀ w', Fine w8 w' → (fun w' => w'.cell? ⟨x8, 0, none⟩ = some (.int .i64 (V 0)) ∧ w'.cell? ⟨x8, 1, none⟩ = some (.int .u64 (V 1)) ∧ w'.cell? ⟨x8, 2, none⟩ = some (.int .u64 (V 2)) ∧ w'.cell? ⟨x8, 3, none⟩ = some (.int .u32 (V 3)) ∧ w'.cell? ⟨x8, 4, none⟩ = some (.int .u32 (V 4)) ∧ w'.cell? ⟨x8, 5, none⟩ = some (.int .i64 (V 5)) ∧ w'.cell? ⟨x8, 6, none⟩ = some (.int .i64 (V 6)) ∧ w'.cell? ⟨x8, 7, none⟩ = some (.bool (decide (V 7 = 1))) ∧ w'.cell? ⟨x8, 8, none⟩ = some (.bool (decide (V 8 = 1))) ∧ w'.cell? ⟨x8, 9, none⟩ = some (.int .i64 (V 9)) ∧ w'.cell? ⟨x8, 10, none⟩ = some (.bool (decide (V 10 = 1))) ∧ w'.cell? ⟨x8, 11, none⟩ = some (.int .i64 (V 11)) ∧ w'.cell? ⟨x8, 12, none⟩ = some (.int .i64 (V 12)) ∧ w'.cell? ⟨x8, 13, none⟩ = some (.bool (decide (V 13 = 1)))) w') := Lib.hid (fun w' hk => by
          have b := B8.out.fine hk
          exact ⟨b.cell 0, b.cell 1, b.cell 2, b.cell 3, b.cell 4, b.cell 5, b.cell 6, b.cell 7, b.cell 8, b.cell 9, b.cell 10, b.cell 11, b.cell 12, b.cell 13⟩)
        go_region_held3 (fun w' => w'.cell? ⟨x8, 0, none⟩ = some (.int .i64 (V 0)) ∧ w'.cell? ⟨x8, 1, none⟩ = some (.int .u64 (V 1)) ∧ w'.cell? ⟨x8, 2, none⟩ = some (.int .u64 (V 2)) ∧ w'.cell? ⟨x8, 3, none⟩ = some (.int .u32 (V 3)) ∧ w'.cell? ⟨x8, 4, none⟩ = some (.int .u32 (V 4)) ∧ w'.cell? ⟨x8, 5, none⟩ = some (.int .i64 (V 5)) ∧ w'.cell? ⟨x8, 6, none⟩ = some (.int .i64 (V 6)) ∧ w'.cell? ⟨x8, 7, none⟩ = some (.bool (decide (V 7 = 1))) ∧ w'.cell? ⟨x8, 8, none⟩ = some (.bool (decide (V 8 = 1))) ∧ w'.cell? ⟨x8, 9, none⟩ = some (.int .i64 (V 9)) ∧ w'.cell? ⟨x8, 10, none⟩ = some (.bool (decide (V 10 = 1))) ∧ w'.cell? ⟨x8, 11, none⟩ = some (.int .i64 (V 11)) ∧ w'.cell? ⟨x8, 12, none⟩ = some (.int .i64 (V 12)) ∧ w'.cell? ⟨x8, 13, none⟩ = some (.bool (decide (V 13 = 1)))) ((with_reducible refine HK.out _ ?_; repeat (first | with_reducible refine Fine.trans ?_ fB | with_reducible refine Fine.trans ?_ fA | with_reducible refine Fine.drew ?_ | with_reducible exact Fine.refl _))) (first | (go_at_call 37; refine (right_any V HVk.out _).mono ?_; rintro x wA ⟨rfl, fA⟩; rw [HQ.out]) | (go_at_call 38; refine (refRight_any V HVk.out _).mono ?_; rintro x wB ⟨rfl, fB⟩; rw [← right_ref HVk.out, HQ.out]))
        have fAB := ((Fine.refl w8).drew.trans fA).trans fB
        have e0 : wB.cell? ⟨x8, 0, none⟩ = some (.int .i64 (V 0)) := (B8.out.fine fAB).cell 0
        have e1 : wB.cell? ⟨x8, 1, none⟩ = some (.int .u64 (V 1)) := (B8.out.fine fAB).cell 1
        have e2 : wB.cell? ⟨x8, 2, none⟩ = some (.int .u64 (V 2)) := (B8.out.fine fAB).cell 2
        have e3 : wB.cell? ⟨x8, 3, none⟩ = some (.int .u32 (V 3)) := (B8.out.fine fAB).cell 3
        have e4 : wB.cell? ⟨x8, 4, none⟩ = some (.int .u32 (V 4)) := (B8.out.fine fAB).cell 4
        have e5 : wB.cell? ⟨x8, 5, none⟩ = some (.int .i64 (V 5)) := (B8.out.fine fAB).cell 5
        have e6 : wB.cell? ⟨x8, 6, none⟩ = some (.int .i64 (V 6)) := (B8.out.fine fAB).cell 6
        have e7 : wB.cell? ⟨x8, 7, none⟩ = some (.bool (decide (V 7 = 1))) := (B8.out.fine fAB).cell 7
        have e8 : wB.cell? ⟨x8, 8, none⟩ = some (.bool (decide (V 8 = 1))) := (B8.out.fine fAB).cell 8
        have e9 : wB.cell? ⟨x8, 9, none⟩ = some (.int .i64 (V 9)) := (B8.out.fine fAB).cell 9
        have e10 : wB.cell? ⟨x8, 10, none⟩ = some (.bool (decide (V 10 = 1))) := (B8.out.fine fAB).cell 10
        have e11 : wB.cell? ⟨x8, 11, none⟩ = some (.int .i64 (V 11)) := (B8.out.fine fAB).cell 11
        have e12 : wB.cell? ⟨x8, 12, none⟩ = some (.int .i64 (V 12)) := (B8.out.fine fAB).cell 12
        have e13 : wB.cell? ⟨x8, 13, none⟩ = some (.bool (decide (V 13 = 1))) := (B8.out.fine fAB).cell 13
        go_wp2_with fail
        refine (refRight_any V HVk.out wB).mono ?_
        rintro x wC ⟨rfl, fC⟩
        rw [← right_ref HVk.out, HQ.out]
        have fABC := fAB.trans fC
        clear e0 e1 e2 e3 e4 e5 e6 e7 e8 e9 e10 e11 e12 e13
        have g0 : wC.cell? ⟨x8, 0, none⟩ = some (.int .i64 (V 0)) := (B8.out.fine fABC).cell 0
        have g1 : wC.cell? ⟨x8, 1, none⟩ = some (.int .u64 (V 1)) := (B8.out.fine fABC).cell 1
        have g2 : wC.cell? ⟨x8, 2, none⟩ = some (.int .u64 (V 2)) := (B8.out.fine fABC).cell 2
        have g3 : wC.cell? ⟨x8, 3, none⟩ = some (.int .u32 (V 3)) := (B8.out.fine fABC).cell 3
        have g4 : wC.cell? ⟨x8, 4, none⟩ = some (.int .u32 (V 4)) := (B8.out.fine fABC).cell 4
        have g5 : wC.cell? ⟨x8, 5, none⟩ = some (.int .i64 (V 5)) := (B8.out.fine fABC).cell 5
        have g6 : wC.cell? ⟨x8, 6, none⟩ = some (.int .i64 (V 6)) := (B8.out.fine fABC).cell 6
        have g7 : wC.cell? ⟨x8, 7, none⟩ = some (.bool (decide (V 7 = 1))) := (B8.out.fine fABC).cell 7
        have g8 : wC.cell? ⟨x8, 8, none⟩ = some (.bool (decide (V 8 = 1))) := (B8.out.fine fABC).cell 8
        have g9 : wC.cell? ⟨x8, 9, none⟩ = some (.int .i64 (V 9)) := (B8.out.fine fABC).cell 9
        have g10 : wC.cell? ⟨x8, 10, none⟩ = some (.bool (decide (V 10 = 1))) := (B8.out.fine fABC).cell 10
        have g11 : wC.cell? ⟨x8, 11, none⟩ = some (.int .i64 (V 11)) := (B8.out.fine fABC).cell 11
        have g12 : wC.cell? ⟨x8, 12, none⟩ = some (.int .i64 (V 12)) := (B8.out.fine fABC).cell 12
        have g13 : wC.cell? ⟨x8, 13, none⟩ = some (.bool (decide (V 13 = 1))) := (B8.out.fine fABC).cell 13
        go_wp2_with fail
        refine (refBytes_any V HVk.out wC).mono ?_
        rintro x wD ⟨vD, rfl, oD, fD⟩
        obtain ⟨AD, cD, rfl, bD, _⟩ := oD.form
        have hPD := Lib.hid ((hR.out.1.fine f8).fine (fABC.trans fD))
        have HBD := Lib.hid bD; clear bD oD
        have hlen1 : Hid (((l.take i).flatMap optB).length + (optB V).length ≤ 100000000) := Lib.hid (by have := optB_len V; have := pre_len l i (by have := hlc.out; omega); omega)
        clear g0 g1 g2 g3 g4 g5 g6 g7 g8 g9 g10 g11 g12 g13
        go_wp2_with (at_builtin; refine wpList_appB rfl (.tmp 40) (.tmp 42) rfl w0.heap.size _ _ rfl hPD.out.2 AD _ cD _ rfl rfl HBD.out (by have := hlen1.out; omega) (by have := hPD.out.1.size; omega) ?_; intro v' w9 ho9 hk9 _ _)
        have HN : Hid (PutSt w0 v' ((l.take (i + 1)).flatMap optB) w9 ∧ true = (l.take (i + 1)).all rightF) := Lib.hid ⟨⟨hPD.out.1.kept hk9 (fun x hx e => by omega), by rw [List.take_add_one, HV0.out, List.flatMap_append]; simpa using ho9⟩, by rw [List.take_add_one, HV0.out, List.all_append, ← hR.out.2]; simp [HQ.out]⟩
        exact ⟨⟨i + 1, true, _, hlt, by simp, rfl, rfl, HN⟩, by simp only [intOf]; omega⟩
    · have hie : i = l.length := by omega
      have ht : t = false := by rw [hR.out.2, hie, List.take_length]; exact hbad.out
      have fe := hR.out.1.1
      have HFE := Lib.hid (HF0.out.trans fe)
      subst ht
      clear hR
      go_wp2_with fail
      go_ret
      exact ⟨rfl, HFE.out⟩
theorem optionPuts_any (A : Option Addr) (c : Nat) (l : List (Nat → Int)) (w : World) (h : RS layO w A c l) (hV : ∀ V ∈ l, OkV V) : Calls Try.prog 14 #[.slice A l.length c] w fun q w' => q = .returned (.bool true) ∧ Fine w w' := by
  by_cases hlen : 50 < l.length
  · clear h
    go_enter Try.func14, Try.ntmps14
    go_wp2_with fail
    refine (optWakes_any _).mono ?_
    rintro x w1 ⟨rfl, f1⟩
    go_wp2_with fail
    go_ret
    exact ⟨rfl, f1⟩
  · cases hb : l.all rightF
    · exact puts_bad A c l w h (Lib.hid (by omega)) (Lib.hid hV) (Lib.hid hb)
    · exact puts_good A c l w h (Lib.hid (by omega)) (Lib.hid hV) (Lib.hid (List.all_eq_true.1 hb))
theorem lawOptionPuts (w : World) (A : Option Addr) (len cap : Nat) (z : List (Nat → Int)) (hz : RS layO w A cap z ∧ z.length = len ∧ ∀ V ∈ z, OkV V) :
    Calls Try.prog 14 #[.slice A len cap] w fun r w' => r = .returned (.bool true) ∧ Fine w w' := by
  obtain ⟨h1, rfl, h2⟩ := hz
  exact optionPuts_any A cap z w h1 h2
end Go.Proofs.Ythnennleblgjeaa
