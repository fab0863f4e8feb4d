/- NetOrder. -/
import Derived.Test.YthnennleblgjeaaDoorXNet5
namespace Go.Proofs.YthnennleblgjeaaDoor
set_option linter.unusedVariables false
set_option linter.unusedSimpArgs false
open Go.ChangeShapes Go.WideShapes Go.ChangeAt Go.RowKit
set_option linter.unusedVariables false
set_option linter.unusedSimpArgs false
def sideN (t i : Nat) : Int := (((t + i) % 2 : Nat) : Int)
/-- What is sent: numbers in order, to one side and the other by turns. -/
def ordL (t : Nat) : Nat → List Int → List (Int × List Int)
  | _, [] => []
  | i, q :: l => (sideN t i, sgB (sz q)) :: ordL t (i + 1) l
theorem ordL_length (t : Nat) : ∀ (i : Nat) (l : List Int), (ordL t i l).length = l.length
  | _, [] => rfl
  | i, q :: l => by simp [ordL, ordL_length t (i + 1) l]
theorem ordL_snoc (t : Nat) : ∀ (i : Nat) (l : List Int) (q : Int), ordL t i (l ++ [q]) = ordL t i l ++ [(sideN t (i + l.length), sgB (sz q))]
  | _, [], _ => rfl
  | i, p :: l, q => by
    have ih := ordL_snoc t (i + 1) l q
    simp only [List.cons_append, ordL, ih, List.length_cons]
    rw [show i + 1 + l.length = i + (l.length + 1) by omega]
set_option maxHeartbeats 4000000 in
set_option maxRecDepth 100000 in
theorem netOrder_any (A : Option Addr) (c : Nat) (l : List Int) (hlq : ∀ q ∈ l, 0 ≤ q ∧ q < 4294967296) (t : Nat) (ht : t ≤ 255) (w : World) (hT : TabW w) (h : RS (layI .u32) w A c l) : Calls Tryd.prog 8 #[.slice A l.length c, .int .u8 (t : Int)] w fun r w' => r = .returned (.bool true) ∧ Fine w w' := by
  have HT := Lib.hid hT; clear hT
  have H := Lib.hid h; clear h
  have HLQ := Lib.hid hlq; clear hlq
  obtain ⟨n, hn⟩ : ∃ n, l.length = n := ⟨_, rfl⟩
  rw [hn]
  have HN := Lib.hid hn; clear hn
  go_enter Tryd.func8, Tryd.ntmps8
  go_wp2_with fail
  refine (nwakes_any w HT.out).mono ?_
  rintro x w0 ⟨rfl, f0⟩
  have HF0 := Lib.hid f0
  have HT0 := Lib.hid (HT.out.fine f0); have H0 := Lib.hid (H.out.fine f0); clear f0
  by_cases h64 : n > 64
  · have h65 : (n : Int) > 64 := by omega
    have f := HF0.out
    go_wp2_with fail
    go_ret
    exact ⟨rfl, f⟩
  have h65 : ¬ (n : Int) > 64 := by omega
  have hn64 : n ≤ 64 := by omega
  clear h64
  go_wp2_with fail
  refine (new_any w0).mono ?_
  rintro x w1 ⟨g, rfl, hN, f1⟩
  have HI : Hid (∃ ps, NetO w1 w0.heap.size g ps ∧ Fine w0 w1 ∧ pv ps = ordL t 0 (l.take 0)) := Lib.hid ⟨[], hN, f1, rfl⟩
  clear hN f1
  go_wp2_with fail
  go_loopw [22] (fun s22 wr => ∃ i : Nat, i ≤ n ∧ s22 = .int .i64 i ∧ Hid (∃ ps, NetO wr w0.heap.size g ps ∧ Fine w0 wr ∧ pv ps = ordL t 0 (l.take i))) (fun s22 _ => n - (intOf s22).toNat)
  case atStart => exact ⟨0, Nat.zero_le _, rfl, HI⟩
  case round =>
    obtain ⟨i, hi, rfl, HR⟩ := hrel
    by_cases hlt : i < n
    · obtain ⟨ps, hN, hf, hpv⟩ := HR.out
      have hpl := pv_len hpv
      rw [ordL_length, List.length_take, HN.out] at hpl
      have HNO := Lib.hid hN; have HF := Lib.hid hf; have HPL := Lib.hid hpl; have HPV := Lib.hid hpv
      obtain ⟨q, hq0⟩ : ∃ q, l[i]? = some q := ⟨_, List.getElem?_eq_getElem (by have := HN.out; omega)⟩
      have HQ0 := Lib.hid hq0
      have HQ := Lib.hid (HLQ.out q (List.mem_of_getElem? hq0))
      obtain ⟨b, o, rfl, hb, hc⟩ := (H0.out.fine hf).at_ hq0
      have c0 := hc 0 (.int .u32 q) rfl
      simp only [Nat.mul_one, Nat.add_zero] at c0
      clear hN hf hpl hpv HR hc hq0 hb
      have ha := and_one (t + i) (by omega)
      rw [Int.natCast_add] at ha
      obtain ⟨r, hr⟩ : ∃ r : Nat, (t + i) % 2 = r := ⟨_, rfl⟩
      rw [hr] at ha
      have HRS : Hid ((r : Int) = sideN t i) := Lib.hid (by rw [← hr]; rfl)
      have HR1 : Hid ((0 : Int) ≤ (r : Int) ∧ (r : Int) ≤ 1) := Lib.hid (by omega)
      clear hr
      go_wp2_with fail
      clear c0
      have f8 : Fine wr (wr.alloc (.cells #[.int .i64 0, .int .i64 0, .int .i64 0, .int .i64 0, .int .u32 q, .int .u32 0, .bool false, .bool false, .bool false, .bool false, .int .i64 0, .slice none 0 0, .slice none 0 0] 26)) := (Fine.refl wr).alloc _
      have b8 : Blk (wr.alloc (.cells #[.int .i64 0, .int .i64 0, .int .i64 0, .int .i64 0, .int .u32 q, .int .u32 0, .bool false, .bool false, .bool false, .bool false, .int .i64 0, .slice none 0 0, .slice none 0 0] 26)) wr.heap.size 26 #[.int .i64 0, .int .i64 0, .int .i64 0, .int .i64 0, .int .u32 q, .int .u32 0, .bool false, .bool false, .bool false, .bool false, .int .i64 0, .slice none 0 0, .slice none 0 0] := Blk.new wr 26 _
      refine (sendZ_any w0 HT0.out g _ ps r HR1.out q HQ.out (by have := HPL.out; omega) _ (HF.out.trans f8) (HNO.out.fine f8) #[.int .i64 0, .int .i64 0, .int .i64 0, .int .i64 0, .int .u32 q, .int .u32 0, .bool false, .bool false, .bool false, .bool false, .int .i64 0, .slice none 0 0, .slice none 0 0] b8 rfl).mono ?_
      rintro x w2 ⟨ps', k2, rfl, hN2, hf2, hl2, hif⟩
      rw [if_neg (by have := HPL.out; omega)] at hif
      obtain ⟨rfl, hpv2⟩ := hif
      have HN2 : Hid (∃ ps, NetO w2 w0.heap.size g ps ∧ Fine w0 w2 ∧ pv ps = ordL t 0 (l.take (i + 1))) := Lib.hid ⟨ps', hN2, hf2, by
        rw [List.take_add_one, HQ0.out, hpv2, HPV.out]
        show _ = ordL t 0 (l.take i ++ [q])
        rw [ordL_snoc, HRS.out, Nat.zero_add, List.length_take, HN.out, Nat.min_eq_left (by omega)]⟩
      clear hN2 hf2 hl2 hpv2 f8 b8
      go_wp2_with fail
      exact ⟨⟨i + 1, hlt, by simp, HN2⟩, by simp only [intOf]; omega⟩
    · have hie : n = i := by omega
      subst hie
      have HJ : Hid (∃ ps, NetR wr w0.heap.size g ps ∧ Fine w0 wr ∧ pv ps = ordL t 0 (l.drop 0)) := Lib.hid (by
        obtain ⟨ps, h1, h2, h3⟩ := HR.out
        refine ⟨ps, h1.r, h2, ?_⟩
        rw [h3, List.drop_zero, ← HN.out, List.take_length])
      clear HR HI
      go_wp2_with fail
      go_loopw [41] (fun s41 wx => ∃ i : Nat, i ≤ n ∧ s41 = .int .i64 i ∧ Hid (∃ ps, NetR wx w0.heap.size g ps ∧ Fine w0 wx ∧ pv ps = ordL t i (l.drop i))) (fun s41 _ => n - (intOf s41).toNat)
      case atStart => exact ⟨0, Nat.zero_le _, rfl, HJ⟩
      case round =>
        obtain ⟨i, hi, rfl, HR⟩ := hrel
        clear hlt
        by_cases hlt : i < n
        · obtain ⟨ps, hN, hf, hpv⟩ := HR.out
          have hpl := pv_len hpv
          rw [ordL_length, List.length_drop, HN.out] at hpl
          obtain ⟨q, hq0⟩ : ∃ q, l[i]? = some q := ⟨_, List.getElem?_eq_getElem (by have := HN.out; omega)⟩
          have hdr : l.drop i = q :: l.drop (i + 1) := by
            obtain ⟨hh, e⟩ := List.getElem?_eq_some_iff.mp hq0
            rw [List.drop_eq_getElem_cons hh, e]
          rw [hdr] at hpv
          have HQ := Lib.hid (HLQ.out q (List.mem_of_getElem? hq0))
          obtain ⟨p, hp, hside, hxs⟩ := pv_at hpv (i := 0) rfl
          obtain ⟨b, o, rfl, hb, hc⟩ := (H0.out.fine hf).at_ hq0
          have c0 := hc 0 (.int .u32 q) rfl
          simp only [Nat.mul_one, Nat.add_zero] at c0
          have hpl22 : p.xs.length = 22 := by rw [hxs]; exact szB_len q
          have HNR := Lib.hid hN; have HF := Lib.hid hf; have HPL := Lib.hid hpl; have HPV := Lib.hid hpv; have HP := Lib.hid hp; have HX := Lib.hid hxs; have H22 := Lib.hid hpl22
          have ha := and_one (t + i) (by omega)
          rw [Int.natCast_add] at ha
          obtain ⟨r, hr⟩ : ∃ r : Nat, (t + i) % 2 = r := ⟨_, rfl⟩
          rw [hr] at ha
          have HSD : Hid (p.side = (r : Int)) := Lib.hid (by rw [hside, ← hr]; rfl)
          clear hN hf hpl hpv HR hc hq0 hb hdr hp hside hxs hpl22 hr
          go_wp2_with fail
          refine (ntake_any w0.heap.size g ps p 0 HP.out (by have := HPL.out; omega) (by have := H22.out; omega) 22 (r : Int) H22.out HSD.out wr HNR.out).mono ?_
          rintro x w4 ⟨A', c', rfl, o4, n4, k4⟩
          clear c0
          have f4 : Fine w0 w4 := HF.out.kept k4 (fun x hx e => by obtain ⟨_, _, hge, _⟩ := HNR.out; omega)
          have HO4 := Lib.hid o4; have HN4 := Lib.hid n4
          clear o4 k4 n4
          go_upto_region 16 with (fail)
          have b5 : Blk (w4.alloc (.cells #[.int .i64 (r : Int), .slice A' 22 c'] 48)) w4.heap.size 48 #[.int .i64 (r : Int), .slice A' 22 c'] := Blk.new w4 48 _
          have f : Fine w4 (w4.alloc (.cells #[.int .i64 (r : Int), .slice A' 22 c'] 48)) := (Fine.refl w4).alloc _
          generalize (w4.alloc (.cells #[.int .i64 (r : Int), .slice A' 22 c'] 48)) = w5 at b5 f ⊢
          generalize w4.heap.size = x5 at b5 ⊢
          have f5 := f4.trans f
          have HO5 := Lib.hid (HO4.out.fine f); have HN5 := Lib.hid (HN4.out.fine f)
          have a0 : w5.cell? ⟨x5, 0, none⟩ = some (.int .i64 (r : Int)) := b5.cell 0
          have a1 : w5.cell? ⟨x5, 1, none⟩ = some (.slice A' 22 c') := b5.cell 1
          clear f f4
          go_wp2_with fail
          refine (getZ_any q HQ.out A' 22 c' p.xs HX.out w5 (HT0.out.fine f5) HO5.out.bs.1 H22.out.symm).mono ?_
          rintro x w6 ⟨A1, c1, B1, d1, rfl, f⟩
          have f6 := f5.trans f
          have b6 := b5.fine f
          have HN6 := Lib.hid (HN5.out.fine f)
          clear a0 a1
          clear b5 f f5
          go_upto_region 17 with (fail)
          have b7 : Blk (w6.alloc (.cells #[.int .i64 0, .int .i64 0, .int .i64 0, .int .i64 0, .int .u32 q, .int .u32 0, .bool false, .bool false, .bool false, .bool false, .int .i64 0, .slice A1 0 c1, .slice B1 0 d1] 26)) w6.heap.size 26 #[.int .i64 0, .int .i64 0, .int .i64 0, .int .i64 0, .int .u32 q, .int .u32 0, .bool false, .bool false, .bool false, .bool false, .int .i64 0, .slice A1 0 c1, .slice B1 0 d1] := Blk.new w6 26 _
          have f : Fine w6 (w6.alloc (.cells #[.int .i64 0, .int .i64 0, .int .i64 0, .int .i64 0, .int .u32 q, .int .u32 0, .bool false, .bool false, .bool false, .bool false, .int .i64 0, .slice A1 0 c1, .slice B1 0 d1] 26)) := (Fine.refl w6).alloc _
          generalize (w6.alloc (.cells #[.int .i64 0, .int .i64 0, .int .i64 0, .int .i64 0, .int .u32 q, .int .u32 0, .bool false, .bool false, .bool false, .bool false, .int .i64 0, .slice A1 0 c1, .slice B1 0 d1] 26)) = w7 at b7 f ⊢
          generalize w6.heap.size = x7 at b7 ⊢
          have b6 := b6.fine f
          have f7 := f6.trans f
          have HN7 : Hid (∃ ps, NetR w7 w0.heap.size g ps ∧ Fine w0 w7 ∧ pv ps = ordL t (i + 1) (l.drop (i + 1))) := Lib.hid ⟨_, HN6.out.fine f, f7, by
            rw [List.take_zero, List.nil_append]
            have h := congrArg (List.drop 1) HPV.out
            unfold pv at h ⊢
            rw [← List.map_drop] at h
            exact h⟩
          have a0 : w7.cell? ⟨x5, 0, none⟩ = some (.int .i64 (r : Int)) := b6.cell 0
          have a4 : w7.cell? ⟨x7, 4, none⟩ = some (.int .u32 q) := b7.cell 4
          clear f6 b6 b7 f f7
          go_wp2_with fail
          exact ⟨⟨i + 1, hlt, by simp, HN7⟩, by simp only [intOf]; omega⟩
        · have hie : n = i := by omega
          subst hie
          obtain ⟨ps, hN, hf, hpv⟩ := HR.out
          rw [List.drop_eq_nil_of_le (by rw [HN.out]; exact Nat.le_refl _)] at hpv
          have hpl : ps.length = 0 := pv_len hpv
          have hlen := fun w' (f : Fine wr w') => len_any w0.heap.size g ps w' (hN.fine f)
          rw [hpl] at hlen
          have HLEN := Lib.hid hlen; have HF := Lib.hid hf
          clear hN hf hpv hpl hlen HR
          go_wp2_with fail
          refine (HLEN.out wr (Fine.refl wr)).mono ?_
          rintro x w2 ⟨rfl, f2⟩
          have f3 := HF0.out.trans (HF.out.trans f2)
          clear f2
          go_wp2_with fail
          go_ret
          exact ⟨rfl, f3⟩
end Go.Proofs.YthnennleblgjeaaDoor
