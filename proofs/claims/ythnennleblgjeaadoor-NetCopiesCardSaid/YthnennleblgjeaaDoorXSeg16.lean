/- segment.Get of a right segment's bytes. -/
import Derived.Test.YthnennleblgjeaaDoorXSeg13
import Derived.Test.YthnennleblgjeaaDoorXSeg15
import Derived.IntWalk
import Derived.Deep.CutBlock
import Derived.Deep.DeepCutAuto
namespace Go.Proofs.YthnennleblgjeaaDoor
set_option linter.unusedVariables false
set_option linter.unusedSimpArgs false
open Go.ChangeShapes Go.WideShapes Go.ChangeAt Go.RowKit
set_option linter.unusedVariables false
set_option linter.unusedSimpArgs false
theorem heads_x (N : Nat → Int) (n m : Nat) (rest : List Int) (A : Option Addr) (k c : Nat) (w : World) (hT : TabW w) (hN : OkN N) (h0 : 0 ≤ N 0 ∧ N 0 ≤ 3) (h1 : 0 ≤ N 1 ∧ N 1 ≤ 3) (h2 : 0 ≤ N 2 ∧ N 2 ≤ 65535) (h3 : 0 ≤ N 3 ∧ N 3 ≤ 65535) (h10 : 0 ≤ N 10 ∧ N 10 ≤ 65535) (hn : n ≤ 4) (hm : m ≤ 8)
    (h : BS w A c (headB N n m ++ rest)) (hk : k = (headB N n m ++ rest).length) (hl : rest.length ≤ 1000000) :
    Calls Tryd.prog 42 #[.slice A k c] w fun r w' => ∃ v, r = .returned (.tuple #[.agg #[.int .u64 (N 0), .int .u64 (N 1), .int .u64 (N 2), .int .u64 (N 3), .int .u64 (N 4), .int .u64 (N 5), .int .u64 (flagsN N), .int .u64 (N 10), .int .u64 ((n : Int)), .int .u64 ((m : Int))], v, .int .i64 0]) ∧ OwnB w' w.heap.size v rest ∧ Fine w w' :=
  heads_any N n m rest A k c w hT hN h0 h1 h2 h3 h10 hn hm h hk hl
/-- What the loop of Get holds behind i options. -/
structure GLp (N : Nat → Int) (n m : Nat) (l : List (Nat → Int)) (tl : List Int) (w0 : World) (x2 x6 x7 i : Nat) (A : Option Addr) (c : Nat) (A7 : Option Addr) (c7 : Nat) (wr : World) : Prop where
  fine : Fine w0 wr
  b2 : Blk wr x2 26 #[.int .i64 0, .int .i64 0, .int .i64 0, .int .i64 0, .int .u32 0, .int .u32 0, .bool false, .bool false, .bool false, .bool false, .int .i64 0, .slice none 0 0, .slice none 0 0]
  b6 : Blk wr x6 59 #[.int .u64 (N 0), .int .u64 (N 1), .int .u64 (N 2), .int .u64 (N 3), .int .u64 (N 4), .int .u64 (N 5), .int .u64 (flagsN N), .int .u64 (N 10), .int .u64 ((n : Int)), .int .u64 ((m : Int))]
  b7 : Blk wr x7 26 #[.int .i64 (N 0), .int .i64 (N 1), .int .i64 (N 2), .int .i64 (N 3), .int .u32 (N 4), .int .u32 (N 5), .bool (decide (N 6 = 1)), .bool (decide (N 7 = 1)), .bool (decide (N 8 = 1)), .bool (decide (N 9 = 1)), .int .i64 (N 10), .slice A7 i c7, .slice none 0 0]
  own : Own layO 69 wr w0.heap.size (.slice A7 i c7) (l.take i)
  data : OwnB wr w0.heap.size (.slice A ((l.drop i).flatMap optB ++ tl).length c) ((l.drop i).flatMap optB ++ tl)
set_option maxHeartbeats 4000000 in
set_option maxRecDepth 100000 in
theorem getGood_any (N : Nat → Int) (A : Option Addr) (k c n m : Nat) (l : List (Nat → Int)) (ds : List Int) (hn : n = l.length) (hm : m = ds.length) (hN : OkN N) (hV : ∀ V ∈ l, OkV V) (hds : Bytes ds) (hr : segRightB N l ds = true) (w : World) (hT : TabW w) (h : BS w A c (putOf (segB N l ds))) (hk : k = (putOf (segB N l ds)).length) :
    Calls Tryd.prog 19 #[.slice A k c] w fun r w' => ∃ A1 c1 B1 d1, r = .returned (.tuple #[.agg #[.int .i64 (N 0), .int .i64 (N 1), .int .i64 (N 2), .int .i64 (N 3), .int .u32 (N 4), .int .u32 (N 5), .bool (decide (N 6 = 1)), .bool (decide (N 7 = 1)), .bool (decide (N 8 = 1)), .bool (decide (N 9 = 1)), .int .i64 (N 10), .slice A1 n c1, .slice B1 m d1], .int .i64 0]) ∧ RS layO w' A1 c1 l ∧ BS w' B1 d1 ds ∧ Fine w w' := by
  have hpl := put_len hr
  have hsb := segB_bytes N l hds
  have hgood := good_put hsb
  have hpad := pad_le (segB N l ds)
  have hplen := putOf_length (segB N l ds)
  obtain ⟨pb, hpb⟩ : ∃ pb, (if (segB N l ds).length % 2 = 1 then [(0 : Int)] else []) = pb := ⟨_, rfl⟩
  have hpadeq : pad (segB N l ds) = headB N n m ++ (l.flatMap optB ++ (ds ++ pb)) := by
    unfold pad
    rw [hpb]
    unfold segB
    rw [hn, hm]
    simp
  have hpbl : pb.length ≤ 1 ∧ (pb = [] ∨ pb = [0]) := by rw [← hpb]; split <;> simp
  have hpar : (segB N l ds).length % 2 = pb.length := by rw [← hpb]; split <;> simp <;> omega
  have hsl : (segB N l ds).length = 19 + ((l.flatMap optB).length + ds.length) := segB_len
  obtain ⟨hr0, hr1, hr2, hr3, hr10, ho, hd8, hall⟩ := segRight_iff.mp hr
  have hn4 : n ≤ 4 := by omega
  have hm8 : m ≤ 8 := by omega
  obtain ⟨Pn, hPn⟩ : ∃ x, (pad (segB N l ds)).length = x := ⟨_, rfl⟩
  have hbT : BS w A c (headB N n m ++ (l.flatMap optB ++ (ds ++ pb))) := by
    have h2 := h.front Pn (by omega)
    have e : (putOf (segB N l ds)).take Pn = pad (segB N l ds) := by unfold putOf; rw [← hPn]; exact List.take_left' rfl
    rw [e, hpadeq] at h2
    exact h2
  have hPl : Pn = (headB N n m ++ (l.flatMap optB ++ (ds ++ pb))).length := by rw [← hPn, hpadeq]
  have hfo := flatOpt_len l hall ho
  have hTl : (l.flatMap optB ++ (ds ++ pb)).length ≤ 1000 := by rw [List.length_append, List.length_append]; omega
  have HRF : ∀ w', (Instr.sliceAt 24 (.slice A k c) none (some (.int .i64 (Pn : Int))) none).run Tryd.prog w' = .ok (.slice A Pn c) w' := by
    rw [hk]
    exact h.run_front Pn (by omega)
  have hk2 : (k : Int) - 2 = (Pn : Int) := by omega
  have hkb : (k : Int) ≤ 1000 := by omega
  have hkb2 : 2 ≤ (k : Int) := by omega
  have HGood := Lib.hid (fun w' (f : Fine w w') => good_any A k c _ w' (h.fine f) hk (by omega))
  rw [hgood] at HGood
  have hR4 := hN.u32 (j := 4) (by decide) rfl
  have hR5 := hN.u32 (j := 5) (by decide) rfl
  have hR6 := flagsN_bd N
  have HHead := Lib.hid (fun w' (f : Fine w w') => heads_x N n m (l.flatMap optB ++ (ds ++ pb)) A Pn c w' (hT.fine f) hN hr0 hr1 hr2 hr3 hr10 hn4 hm8 (hbT.fine f) hPl (by omega))
  have HPut := Lib.hid (fun A B c d w' (f : Fine w w') h1 h2 => segPut_any N A B n c m d l ds hn hm (by omega) hN hV w' (hT.fine f) h1 h2)
  have HSz := Lib.hid (fun A B c d w' (f : Fine w w') h1 => segSizeN_any N A B n m c d l hn ho hm8 hV hall w' (hT.fine f) h1)
  obtain ⟨T, hTT⟩ : ∃ T, l.flatMap optB ++ (ds ++ pb) = T := ⟨_, rfl⟩
  rw [hTT] at HHead hTl
  have HTT := Lib.hid hTT; clear hTT
  have HPAR := Lib.hid hpar
  have HPB := Lib.hid hpbl
  have HSL := Lib.hid hsl
  have HNL := Lib.hid hn
  have HML := Lib.hid hm
  have HALL := Lib.hid hall
  have HTL := Lib.hid hTl
  have HR := Lib.hid hr
  clear hpl hsb hgood hpad hplen hpb hpadeq hpbl hpar hsl ho hd8 hall hPn hbT hPl hTl hk hn hm hfo h hT hr
  have aa := and_flag N
  obtain ⟨af1, af2, af3, af4⟩ := aa
  have AF1 := Lib.hid af1; have AF2 := Lib.hid af2; have AF3 := Lib.hid af3; have AF4 := Lib.hid af4
  clear af1 af2 af3 af4
  have m0 : IntKind.i64.wrap (N 0) = N 0 := IntWalk.i64_in _ (by omega)
  have m1 : IntKind.i64.wrap (N 1) = N 1 := IntWalk.i64_in _ (by omega)
  have m2 : IntKind.i64.wrap (N 2) = N 2 := IntWalk.i64_in _ (by omega)
  have m3 : IntKind.i64.wrap (N 3) = N 3 := IntWalk.i64_in _ (by omega)
  have m10 : IntKind.i64.wrap (N 10) = N 10 := IntWalk.i64_in _ (by omega)
  have m4 : IntKind.u32.wrap (N 4) = N 4 := by rw [IntKind.wrap_u32]; omega
  have m5 : IntKind.u32.wrap (N 5) = N 5 := by rw [IntKind.wrap_u32]; omega
  have n4 : N 4 % 4294967296 = N 4 := by omega
  have n5 : N 5 % 4294967296 = N 5 := by omega
  have hf6 : ¬ flagsN N > 15 := by omega
  have HF6 := Lib.hid hf6; clear hf6
  have HR6 := Lib.hid hR6; clear hR6
  clear hR4 hR5 hds hN
  go_enter Tryd.func19, Tryd.ntmps19
  go_wp2_with fail
  have b2 : Blk (w.alloc (.cells #[.int .i64 0, .int .i64 0, .int .i64 0, .int .i64 0, .int .u32 0, .int .u32 0, .bool false, .bool false, .bool false, .bool false, .int .i64 0, .slice none 0 0, .slice none 0 0] 26)) w.heap.size 26 #[.int .i64 0, .int .i64 0, .int .i64 0, .int .i64 0, .int .u32 0, .int .u32 0, .bool false, .bool false, .bool false, .bool false, .int .i64 0, .slice none 0 0, .slice none 0 0] := Blk.new w 26 _
  have f1 : Fine w (w.alloc (.cells #[.int .i64 0, .int .i64 0, .int .i64 0, .int .i64 0, .int .u32 0, .int .u32 0, .bool false, .bool false, .bool false, .bool false, .int .i64 0, .slice none 0 0, .slice none 0 0] 26)) := (Fine.refl w).alloc _
  generalize (w.alloc (.cells #[.int .i64 0, .int .i64 0, .int .i64 0, .int .i64 0, .int .u32 0, .int .u32 0, .bool false, .bool false, .bool false, .bool false, .int .i64 0, .slice none 0 0, .slice none 0 0] 26)) = w1 at b2 f1 ⊢
  obtain ⟨x2, hx2⟩ : ∃ x2, w.heap.size = x2 := ⟨_, rfl⟩
  rw [hx2] at b2 ⊢
  have HX2 := Lib.hid hx2; clear hx2
  refine (HGood.out w1 f1).mono ?_
  rintro x wA ⟨rfl, f⟩
  have b2 := b2.fine f
  have f1 := f1.trans f
  clear f
  go_wp2_with fail
  refine (HHead.out wA f1).mono ?_
  rintro x w3 ⟨v3, rfl, o3, f⟩
  have b2 := b2.fine f
  have o3 := o3.lower f1.size
  have f3 := f1.trans f
  clear f1 f
  obtain ⟨A3, c3, rfl, hb3, _⟩ := o3.form
  have O3 := Lib.hid o3
  clear o3 hb3 hk2 hkb hkb2 HRF
  go_upto_region 8 with (fail)
  have b4 : Blk (((w3.alloc (.cells #[.int .u64 (N 0), .int .u64 (N 1), .int .u64 (N 2), .int .u64 (N 3), .int .u64 (N 4), .int .u64 (N 5), .int .u64 (flagsN N), .int .u64 (N 10), .int .u64 ((n : Int)), .int .u64 ((m : Int))] 61)).alloc (.cells #[.int .u64 (N 0), .int .u64 (N 1), .int .u64 (N 2), .int .u64 (N 3), .int .u64 (N 4), .int .u64 (N 5), .int .u64 (flagsN N), .int .u64 (N 10), .int .u64 ((n : Int)), .int .u64 ((m : Int))] 59)).alloc (.cells #[.int .i64 (N 0), .int .i64 (N 1), .int .i64 (N 2), .int .i64 (N 3), .int .u32 (N 4), .int .u32 (N 5), .bool false, .bool false, .bool false, .bool false, .int .i64 (N 10), .slice none 0 0, .slice none 0 0] 26)) (w3.heap.size + 2) 26 #[.int .i64 (N 0), .int .i64 (N 1), .int .i64 (N 2), .int .i64 (N 3), .int .u32 (N 4), .int .u32 (N 5), .bool false, .bool false, .bool false, .bool false, .int .i64 (N 10), .slice none 0 0, .slice none 0 0] := Blk.newAt (by simp)
  have b6 : Blk (((w3.alloc (.cells #[.int .u64 (N 0), .int .u64 (N 1), .int .u64 (N 2), .int .u64 (N 3), .int .u64 (N 4), .int .u64 (N 5), .int .u64 (flagsN N), .int .u64 (N 10), .int .u64 ((n : Int)), .int .u64 ((m : Int))] 61)).alloc (.cells #[.int .u64 (N 0), .int .u64 (N 1), .int .u64 (N 2), .int .u64 (N 3), .int .u64 (N 4), .int .u64 (N 5), .int .u64 (flagsN N), .int .u64 (N 10), .int .u64 ((n : Int)), .int .u64 ((m : Int))] 59)).alloc (.cells #[.int .i64 (N 0), .int .i64 (N 1), .int .i64 (N 2), .int .i64 (N 3), .int .u32 (N 4), .int .u32 (N 5), .bool false, .bool false, .bool false, .bool false, .int .i64 (N 10), .slice none 0 0, .slice none 0 0] 26)) (w3.heap.size + 1) 59 #[.int .u64 (N 0), .int .u64 (N 1), .int .u64 (N 2), .int .u64 (N 3), .int .u64 (N 4), .int .u64 (N 5), .int .u64 (flagsN N), .int .u64 (N 10), .int .u64 ((n : Int)), .int .u64 ((m : Int))] := (Blk.newAt (by simp)).alloc _
  have b2 : Blk (((w3.alloc (.cells #[.int .u64 (N 0), .int .u64 (N 1), .int .u64 (N 2), .int .u64 (N 3), .int .u64 (N 4), .int .u64 (N 5), .int .u64 (flagsN N), .int .u64 (N 10), .int .u64 ((n : Int)), .int .u64 ((m : Int))] 61)).alloc (.cells #[.int .u64 (N 0), .int .u64 (N 1), .int .u64 (N 2), .int .u64 (N 3), .int .u64 (N 4), .int .u64 (N 5), .int .u64 (flagsN N), .int .u64 (N 10), .int .u64 ((n : Int)), .int .u64 ((m : Int))] 59)).alloc (.cells #[.int .i64 (N 0), .int .i64 (N 1), .int .i64 (N 2), .int .i64 (N 3), .int .u32 (N 4), .int .u32 (N 5), .bool false, .bool false, .bool false, .bool false, .int .i64 (N 10), .slice none 0 0, .slice none 0 0] 26)) x2 26 #[.int .i64 0, .int .i64 0, .int .i64 0, .int .i64 0, .int .u32 0, .int .u32 0, .bool false, .bool false, .bool false, .bool false, .int .i64 0, .slice none 0 0, .slice none 0 0] := ((b2.alloc _).alloc _).alloc _
  have fa : Fine w3 (((w3.alloc (.cells #[.int .u64 (N 0), .int .u64 (N 1), .int .u64 (N 2), .int .u64 (N 3), .int .u64 (N 4), .int .u64 (N 5), .int .u64 (flagsN N), .int .u64 (N 10), .int .u64 ((n : Int)), .int .u64 ((m : Int))] 61)).alloc (.cells #[.int .u64 (N 0), .int .u64 (N 1), .int .u64 (N 2), .int .u64 (N 3), .int .u64 (N 4), .int .u64 (N 5), .int .u64 (flagsN N), .int .u64 (N 10), .int .u64 ((n : Int)), .int .u64 ((m : Int))] 59)).alloc (.cells #[.int .i64 (N 0), .int .i64 (N 1), .int .i64 (N 2), .int .i64 (N 3), .int .u32 (N 4), .int .u32 (N 5), .bool false, .bool false, .bool false, .bool false, .int .i64 (N 10), .slice none 0 0, .slice none 0 0] 26)) := (((Fine.refl w3).alloc _).alloc _).alloc _
  generalize (((w3.alloc (.cells #[.int .u64 (N 0), .int .u64 (N 1), .int .u64 (N 2), .int .u64 (N 3), .int .u64 (N 4), .int .u64 (N 5), .int .u64 (flagsN N), .int .u64 (N 10), .int .u64 ((n : Int)), .int .u64 ((m : Int))] 61)).alloc (.cells #[.int .u64 (N 0), .int .u64 (N 1), .int .u64 (N 2), .int .u64 (N 3), .int .u64 (N 4), .int .u64 (N 5), .int .u64 (flagsN N), .int .u64 (N 10), .int .u64 ((n : Int)), .int .u64 ((m : Int))] 59)).alloc (.cells #[.int .i64 (N 0), .int .i64 (N 1), .int .i64 (N 2), .int .i64 (N 3), .int .u32 (N 4), .int .u32 (N 5), .bool false, .bool false, .bool false, .bool false, .int .i64 (N 10), .slice none 0 0, .slice none 0 0] 26)) = w4 at b2 b4 b6 fa ⊢
  obtain ⟨x7, hx7⟩ : ∃ x, w3.heap.size + 2 = x := ⟨_, rfl⟩
  obtain ⟨x6, hx6⟩ : ∃ x, w3.heap.size + 1 = x := ⟨_, rfl⟩
  rw [hx7] at b4 ⊢
  rw [hx6] at b6 ⊢
  have f4 : Fine w w4 := f3.trans fa
  have hxx : w.heap.size ≤ x7 ∧ x7 ≠ x6 ∧ x7 ≠ x2 := by have := f3.size; have := b2.lt; have := HX2.out; omega
  have HXX := Lib.hid hxx; clear hxx
  have O4 := Lib.hid (O3.out.fine fa)
  clear hx7 hx6 fa O3 m0 m1 m2 m3 m4 m5 m10 n4 n5 HHead HGood
  have F4 := Lib.hid f4; clear f4 f3
  have e66 : w4.cell? ⟨x6, 6, none⟩ = some (.int .u64 (flagsN N)) := b6.cell 6
  have e76 : w4.cell? ⟨x7, 6, none⟩ = some (.bool false) := b4.cell 6
  have e77 : w4.cell? ⟨x7, 7, none⟩ = some (.bool false) := b4.cell 7
  have e78 : w4.cell? ⟨x7, 8, none⟩ = some (.bool false) := b4.cell 8
  have e79 : w4.cell? ⟨x7, 9, none⟩ = some (.bool false) := b4.cell 9
  have z76 : w4.frozen? ⟨x7, 6, none⟩ = false := b4.frozen 6
  have z77 : w4.frozen? ⟨x7, 7, none⟩ = false := b4.frozen 7
  have z78 : w4.frozen? ⟨x7, 8, none⟩ = false := b4.frozen 8
  have z79 : w4.frozen? ⟨x7, 9, none⟩ = false := b4.frozen 9
  have B2 := Lib.hid b2; have B4 := Lib.hid b4; have B6 := Lib.hid b6; clear b2 b4 b6
  have a1 := AF1.out; have a2 := AF2.out; have a3 := AF3.out; have a4 := AF4.out
  have hne : x7 ≠ x6 := HXX.out.2.1
  go_cut [] (fun wx => Hid (Fine w wx ∧ Blk wx x2 26 #[.int .i64 0, .int .i64 0, .int .i64 0, .int .i64 0, .int .u32 0, .int .u32 0, .bool false, .bool false, .bool false, .bool false, .int .i64 0, .slice none 0 0, .slice none 0 0] ∧ Blk wx x6 59 #[.int .u64 (N 0), .int .u64 (N 1), .int .u64 (N 2), .int .u64 (N 3), .int .u64 (N 4), .int .u64 (N 5), .int .u64 (flagsN N), .int .u64 (N 10), .int .u64 ((n : Int)), .int .u64 ((m : Int))] ∧ Blk wx x7 26 #[.int .i64 (N 0), .int .i64 (N 1), .int .i64 (N 2), .int .i64 (N 3), .int .u32 (N 4), .int .u32 (N 5), .bool (decide (N 6 = 1)), .bool (decide (N 7 = 1)), .bool (decide (N 8 = 1)), .bool (decide (N 9 = 1)), .int .i64 (N 10), .slice none 0 0, .slice none 0 0] ∧ OwnB wx w.heap.size (.slice A3 T.length c3) T))
  case first =>
    go_region
    go_wp2_with fail
    go_meet
    have hx7 : w.heap.size ≤ x7 := HXX.out.1
    have hn2 : x2 ≠ x7 := HXX.out.2.2.symm
    have hn6 : x6 ≠ x7 := HXX.out.2.1.symm
    refine Lib.hid ⟨?_, ?_, ?_, ?_, ?_⟩
    · repeat (first | with_reducible exact F4.out | with_reducible refine Fine.drew ?_ | with_reducible refine Fine.setCell ?_ hx7 _)
    · exact ((((B2.out.far hn2 _).far hn2 _).far hn2 _).far hn2 _).drew
    · exact ((((B6.out.far hn6 _).far hn6 _).far hn6 _).far hn6 _).drew
    · exact (((((B4.out.set_ 6 _).set_ 7 _).set_ 8 _).set_ 9 _).drew).cast (by simp)
    · exact O4.out.farT (by decide) B4.out (by repeat (first | with_reducible exact Kept.refl _ _ | with_reducible refine Kept.drew ?_ | with_reducible refine Kept.setC ?_))
  case rest =>
    have e68 : wc.cell? ⟨x6, 8, none⟩ = some (.int .u64 (n : Int)) := hcut.out.2.2.1.cell 8
    clear e66 e76 e77 e78 e79 z76 z77 z78 z79 a1 a2 a3 a4 AF1 AF2 AF3 AF4 B2 B4 B6 O4 hne F4
    have HC := Lib.hid hcut.out; clear hcut
    go_wp2_with fail
    go_loopw [0, 5, 76] (fun s0 s5 s76 wr => ∃ i : Nat, i ≤ n ∧ s76 = .int .u64 i ∧ s5 = .int .i64 0 ∧ ∃ A' c' A7 c7, s0 = .slice A' ((l.drop i).flatMap optB ++ (ds ++ pb)).length c' ∧ Hid (GLp N n m l (ds ++ pb) w x2 x6 x7 i A' c' A7 c7 wr)) (fun _ _ s76 _ => n - (intOf s76).toNat)
    case atStart => exact ⟨0, Nat.zero_le _, rfl, rfl, A3, c3, none, 0, by rw [← HTT.out]; rfl, Lib.hid ⟨HC.out.1, HC.out.2.1, HC.out.2.2.1, HC.out.2.2.2.1, Own.nil_ _ _ _ _, by have h := HC.out.2.2.2.2; rw [← HTT.out] at h; exact h⟩⟩
    case round =>
      obtain ⟨i, hi, rfl, rfl, A', c', A7, c7, rfl, HG⟩ := hrel
      by_cases hlt : i < n
      · obtain ⟨V, hV0⟩ : ∃ V, l[i]? = some V := ⟨_, List.getElem?_eq_getElem (by have := HNL.out; omega)⟩
        have hVm := List.mem_of_getElem? hV0
        have hOV := hV V hVm
        have hRV := HALL.out V hVm
        have hdr : (l.drop i).flatMap optB ++ (ds ++ pb) = optB V ++ ((l.drop (i + 1)).flatMap optB ++ (ds ++ pb)) := by
          obtain ⟨hh, e⟩ := List.getElem?_eq_some_iff.mp hV0
          rw [List.drop_eq_getElem_cons hh, e, List.flatMap_cons, List.append_assoc]
        have htk : l.take (i + 1) = l.take i ++ [V] := by rw [List.take_add_one, hV0]; rfl
        obtain ⟨ys, hys⟩ : ∃ ys, (l.drop (i + 1)).flatMap optB ++ (ds ++ pb) = ys := ⟨_, rfl⟩
        have hdat := HG.out.data
        obtain ⟨zs, hzs⟩ : ∃ zs, optB V ++ ys = zs := ⟨_, rfl⟩
        rw [hdr, hys, hzs] at hdat ⊢
        have hyl : zs.length ≤ 1000 := by
          rw [← hzs, ← hys, ← hdr]
          have h1 := HTL.out
          rw [← HTT.out] at h1
          have h2 : ((l.drop i).flatMap optB).length ≤ (l.flatMap optB).length := by
            conv => rhs; rw [← List.take_append_drop i l]
            rw [List.flatMap_append, List.length_append]
            omega
          rw [List.length_append] at h1 ⊢
          omega
        have HYS := Lib.hid hys; have HZS := Lib.hid hzs; have HTK := Lib.hid htk; have HDAT := Lib.hid hdat; have HYL := Lib.hid hyl; have HOV := Lib.hid hOV; have HRV := Lib.hid hRV
        clear hys hzs htk hdr hdat hyl hV0 hOV hRV hVm
        go_wp2_with fail
        have b8 : Blk (wr.alloc (.cells #[.int .i64 0, .int .u64 0, .int .u64 0, .int .u32 0, .int .u32 0, .int .i64 0, .int .i64 0, .bool false, .bool false, .int .i64 0, .bool false, .int .i64 0, .int .i64 0, .bool false] 69)) wr.heap.size 69 (optL zeroV).toArray := Blk.new wr 69 _
        have fw : Fine wr (wr.alloc (.cells #[.int .i64 0, .int .u64 0, .int .u64 0, .int .u32 0, .int .u32 0, .int .i64 0, .int .i64 0, .bool false, .bool false, .int .i64 0, .bool false, .int .i64 0, .int .i64 0, .bool false] 69)) := (Fine.refl wr).alloc _
        generalize (wr.alloc (.cells #[.int .i64 0, .int .u64 0, .int .u64 0, .int .u32 0, .int .u32 0, .int .i64 0, .int .i64 0, .bool false, .bool false, .int .i64 0, .bool false, .int .i64 0, .int .i64 0, .bool false] 69)) = w8 at b8 fw ⊢
        obtain ⟨x8, hx8⟩ : ∃ x, wr.heap.size = x := ⟨_, rfl⟩
        rw [hx8] at b8 ⊢
        have HX8 := Lib.hid hx8; clear hx8
        refine (getOpt_any V HOV.out HRV.out ys zs HZS.out A' zs.length c' rfl (by have := HYL.out; omega) w8 (HDAT.out.fine fw).bs.1).mono ?_
        rintro e w3 ⟨v3, rfl, o3, f⟩
        have b8 := b8.fine f
        have f3 := fw.trans f
        have o3 : OwnB w3 wr.heap.size v3 ys := o3.lower fw.size
        clear fw f
        have zc0 : w3.cell? ⟨x8, 0, none⟩ = some (.int .i64 0) := b8.cell 0
        have zf0 : w3.frozen? ⟨x8, 0, none⟩ = false := b8.frozen 0
        have zc1 : w3.cell? ⟨x8, 1, none⟩ = some (.int .u64 0) := b8.cell 1
        have zf1 : w3.frozen? ⟨x8, 1, none⟩ = false := b8.frozen 1
        have zc2 : w3.cell? ⟨x8, 2, none⟩ = some (.int .u64 0) := b8.cell 2
        have zf2 : w3.frozen? ⟨x8, 2, none⟩ = false := b8.frozen 2
        have zc3 : w3.cell? ⟨x8, 3, none⟩ = some (.int .u32 0) := b8.cell 3
        have zf3 : w3.frozen? ⟨x8, 3, none⟩ = false := b8.frozen 3
        have zc4 : w3.cell? ⟨x8, 4, none⟩ = some (.int .u32 0) := b8.cell 4
        have zf4 : w3.frozen? ⟨x8, 4, none⟩ = false := b8.frozen 4
        have zc5 : w3.cell? ⟨x8, 5, none⟩ = some (.int .i64 0) := b8.cell 5
        have zf5 : w3.frozen? ⟨x8, 5, none⟩ = false := b8.frozen 5
        have zc6 : w3.cell? ⟨x8, 6, none⟩ = some (.int .i64 0) := b8.cell 6
        have zf6 : w3.frozen? ⟨x8, 6, none⟩ = false := b8.frozen 6
        have zc7 : w3.cell? ⟨x8, 7, none⟩ = some (.bool false) := b8.cell 7
        have zf7 : w3.frozen? ⟨x8, 7, none⟩ = false := b8.frozen 7
        have zc8 : w3.cell? ⟨x8, 8, none⟩ = some (.bool false) := b8.cell 8
        have zf8 : w3.frozen? ⟨x8, 8, none⟩ = false := b8.frozen 8
        have zc9 : w3.cell? ⟨x8, 9, none⟩ = some (.int .i64 0) := b8.cell 9
        have zf9 : w3.frozen? ⟨x8, 9, none⟩ = false := b8.frozen 9
        have zc10 : w3.cell? ⟨x8, 10, none⟩ = some (.bool false) := b8.cell 10
        have zf10 : w3.frozen? ⟨x8, 10, none⟩ = false := b8.frozen 10
        have zc11 : w3.cell? ⟨x8, 11, none⟩ = some (.int .i64 0) := b8.cell 11
        have zf11 : w3.frozen? ⟨x8, 11, none⟩ = false := b8.frozen 11
        have zc12 : w3.cell? ⟨x8, 12, none⟩ = some (.int .i64 0) := b8.cell 12
        have zf12 : w3.frozen? ⟨x8, 12, none⟩ = false := b8.frozen 12
        have zc13 : w3.cell? ⟨x8, 13, none⟩ = some (.bool false) := b8.cell 13
        have zf13 : w3.frozen? ⟨x8, 13, none⟩ = false := b8.frozen 13
        obtain ⟨w4, hw4⟩ : ∃ w4, ((((((((((((((w3.setCell ⟨x8, 0, none⟩ (.int .i64 (V 0))).setCell ⟨x8, 1, none⟩ (.int .u64 (V 1))).setCell ⟨x8, 2, none⟩ (.int .u64 (V 2))).setCell ⟨x8, 3, none⟩ (.int .u32 (V 3))).setCell ⟨x8, 4, none⟩ (.int .u32 (V 4))).setCell ⟨x8, 5, none⟩ (.int .i64 (V 5))).setCell ⟨x8, 6, none⟩ (.int .i64 (V 6))).setCell ⟨x8, 7, none⟩ (.bool (decide (V 7 = 1)))).setCell ⟨x8, 8, none⟩ (.bool (decide (V 8 = 1)))).setCell ⟨x8, 9, none⟩ (.int .i64 (V 9))).setCell ⟨x8, 10, none⟩ (.bool (decide (V 10 = 1)))).setCell ⟨x8, 11, none⟩ (.int .i64 (V 11))).setCell ⟨x8, 12, none⟩ (.int .i64 (V 12))).setCell ⟨x8, 13, none⟩ (.bool (decide (V 13 = 1)))) = w4 := ⟨_, rfl⟩
        have k4 : Kept (fun x => x = x8) w3 w4 := by rw [← hw4]; exact opt_stored_kept w3 x8 V
        have B8 : Hid (Blk w4 x8 69 (optL V).toArray) := Lib.hid (by rw [← hw4]; exact opt_stored (U := zeroV) b8)
        have f34 : Fine wr w4 := by
          refine f3.kept k4 (fun x hx e => ?_)
          have := HX8.out
          omega
        have o4 : OwnB w4 wr.heap.size v3 ys := o3.far b8 k4
        have G2 := Lib.hid (HG.out.b2.fine f34); have G6 := Lib.hid (HG.out.b6.fine f34); have G7 := Lib.hid (HG.out.b7.fine f34); have GO := Lib.hid (HG.out.own.fine f34)
        have GF := Lib.hid (HG.out.fine.trans f34)
        have HW4 := Lib.hid hw4; clear hw4
        go_upto_region 13 with (fail)
        rw [HW4.out]
        clear zc0 zf0 zc1 zf1 zc2 zf2 zc3 zf3 zc4 zf4 zc5 zf5 zc6 zf6 zc7 zf7 zc8 zf8 zc9 zf9 zc10 zf10 zc11 zf11 zc12 zf12 zc13 zf13 HW4 b8 k4
        obtain ⟨A9, c9, rfl, _, _⟩ := o4.form
        obtain ⟨tk, htk0⟩ : ∃ tk, l.take i = tk := ⟨_, rfl⟩
        have htl : tk.length = i := by rw [← htk0, List.length_take]; have := HNL.out; omega
        have GO := GO.out
        rw [htk0] at GO
        have HTK0 := Lib.hid htk0; clear htk0
        have GO := Lib.hid GO
        have O4 := Lib.hid o4; clear o4
        have htl1 : tk.length + [V].length = i + 1 := by rw [htl]; rfl
        have htl2 : tk.length + 1 = i + 1 := by rw [htl]
        have HTL2 := Lib.hid htl2; clear htl2
        have HTL0 := Lib.hid htl; have HTL1 := Lib.hid htl1; clear htl htl1
        have q0 : w4.cell? ⟨x8, 0, none⟩ = some (.int .i64 (V 0)) := B8.out.cell 0
        have q1 : w4.cell? ⟨x8, 1, none⟩ = some (.int .u64 (V 1)) := B8.out.cell 1
        have q2 : w4.cell? ⟨x8, 2, none⟩ = some (.int .u64 (V 2)) := B8.out.cell 2
        have q3 : w4.cell? ⟨x8, 3, none⟩ = some (.int .u32 (V 3)) := B8.out.cell 3
        have q4 : w4.cell? ⟨x8, 4, none⟩ = some (.int .u32 (V 4)) := B8.out.cell 4
        have q5 : w4.cell? ⟨x8, 5, none⟩ = some (.int .i64 (V 5)) := B8.out.cell 5
        have q6 : w4.cell? ⟨x8, 6, none⟩ = some (.int .i64 (V 6)) := B8.out.cell 6
        have q7 : w4.cell? ⟨x8, 7, none⟩ = some (.bool (decide (V 7 = 1))) := B8.out.cell 7
        have q8 : w4.cell? ⟨x8, 8, none⟩ = some (.bool (decide (V 8 = 1))) := B8.out.cell 8
        have q9 : w4.cell? ⟨x8, 9, none⟩ = some (.int .i64 (V 9)) := B8.out.cell 9
        have q10 : w4.cell? ⟨x8, 10, none⟩ = some (.bool (decide (V 10 = 1))) := B8.out.cell 10
        have q11 : w4.cell? ⟨x8, 11, none⟩ = some (.int .i64 (V 11)) := B8.out.cell 11
        have q12 : w4.cell? ⟨x8, 12, none⟩ = some (.int .i64 (V 12)) := B8.out.cell 12
        have q13 : w4.cell? ⟨x8, 13, none⟩ = some (.bool (decide (V 13 = 1))) := B8.out.cell 13
        have e11 : w4.cell? ⟨x7, 11, none⟩ = some (.slice A7 i c7) := G7.out.cell 11
        go_wp2_with (at_builtin; refine wpList_appE rfl sliceO (.tmp 89) (.tmp 91) rfl w.heap.size _ tk rfl (GO.out.alloc _) (some ⟨w4.heap.size, 0, none⟩) 1 1 [V] rfl rfl (RS.ofBlk (Blk.newAt rfl) rfl rfl (by unfold maxLen; omega)) ?_ ?_ ?_ ?_)
        · rw [HTL1.out]; omega
        · rw [HTL1.out]; unfold maxLen; omega
        · have := GF.out.size; simp; omega
        · intro A10 c10 w6 o10 k10 g10
          clear q0 q1 q2 q3 q4 q5 q6 q7 q8 q9 q10 q11 q12 q13 e11
          have o10 := o10.out
          have g10 := g10.out.1
          rw [HTL2.out] at o10 ⊢
          have ga := GO.out.alloc (.cells (optL V).toArray 69)
          have H2 := grown_blk (G2.out.alloc (.cells (optL V).toArray 69)) ga (by decide) g10
          have H6 := grown_blk (G6.out.alloc (.cells (optL V).toArray 69)) ga (by decide) g10
          have H7 := grown_blk (G7.out.alloc (.cells (optL V).toArray 69)) ga (by decide) g10
          have hx7 : w.heap.size ≤ x7 := HXX.out.1
          have hn2 : x2 ≠ x7 := HXX.out.2.2.symm
          have hn6 : x6 ≠ x7 := HXX.out.2.1.symm
          have kx : Kept (fun k => k = x7) w6 (w6.setCell ⟨x7, 11, none⟩ (.slice A10 (i + 1) c10)) := (Kept.refl (fun k => k = x7) w6).setC
          have HH : Hid (GLp N n m l (ds ++ pb) w x2 x6 x7 (i + 1) A9 c9 A10 c10 (w6.setCell ⟨x7, 11, none⟩ (.slice A10 (i + 1) c10))) := by
            refine Lib.hid ⟨?_, H2.far hn2 _, H6.far hn6 _, (H7.set_ 11 _).cast (by simp), ?_, ?_⟩
            · exact ((GF.out.alloc (.cells (optL V).toArray 69)).kept k10 (fun x hx h => by omega)).setCell hx7 _
            · rw [HTK.out, HTK0.out]
              exact own_far o10 (by decide) H7 kx
            · rw [HYS.out]
              exact ((grown_own (O4.out.alloc (.cells (optL V).toArray 69)) ga g10).farT (by decide) H7 kx).lower HG.out.fine.size
          have e11 : w6.cell? ⟨x7, 11, none⟩ = some (.slice A7 i c7) := H7.cell 11
          have z11 : w6.frozen? ⟨x7, 11, none⟩ = false := H7.frozen 11
          clear o10 g10 ga H2 H6 H7 kx k10 hx7 hn2 hn6
          go_wp2_with fail
          exact ⟨⟨i + 1, hlt, by simp, rfl, A9, c9, A10, c10, by rw [HYS.out], HH⟩, by simp only [intOf]; omega⟩
      · have hie : n = i := by omega
        subst hie
        have hdd : (l.drop n).flatMap optB ++ (ds ++ pb) = ds ++ pb := by rw [List.drop_eq_nil_of_le (by have := HNL.out; omega)]; rfl
        have htt : l.take n = l := List.take_of_length_le (by have := HNL.out; omega)
        obtain ⟨gf, g2, g6, g7, go, gd⟩ := HG.out
        rw [htt] at go
        obtain ⟨dp, hdp⟩ : ∃ dp, ds ++ pb = dp := ⟨_, rfl⟩
        rw [hdd, hdp] at gd ⊢
        have hdl : dp.length = m + pb.length := by rw [← hdp, List.length_append, HML.out]
        have hdt : dp.take m = ds := by rw [← hdp, HML.out]; exact List.take_left' rfl
        have hdr : dp.drop m = pb := by rw [← hdp, HML.out]; exact List.drop_left' rfl
        have G2 := Lib.hid g2; have G6 := Lib.hid g6; have G7 := Lib.hid g7; have GO := Lib.hid go; have GD := Lib.hid gd; have GF := Lib.hid gf
        have HDL := Lib.hid hdl; have HDT := Lib.hid hdt; have HDR := Lib.hid hdr
        have e69 : wr.cell? ⟨x6, 9, none⟩ = some (.int .u64 (m : Int)) := g6.cell 9
        clear hdd htt hdp hdl hdt hdr g2 g6 g7 go gd gf HG
        go_wp2_with fail
        refine (cut_n A' dp.length c' dp m (by have := HDL.out; omega) (by have := HDL.out; have := HPB.out; omega) wr GD.out.bs.1 rfl).mono ?_
        rintro e w5 ⟨u, v, rfl, ou, ov, f5⟩
        rw [HDT.out] at ou
        rw [HDR.out] at ov
        have ou := ou.lower GF.out.size
        have ov := ov.lower GF.out.size
        obtain ⟨B1, d1, rfl, _, _⟩ := ou.form
        obtain ⟨A9, c9, rfl, hbv, _⟩ := ov.form
        have g7 := G7.out.fine f5
        have f05 := GF.out.trans f5
        have hx7 : w.heap.size ≤ x7 := HXX.out.1
        have hn2 : x2 ≠ x7 := HXX.out.2.2.symm
        have hn6 : x6 ≠ x7 := HXX.out.2.1.symm
        rw [← HML.out] at ou ⊢
        have e12 : w5.cell? ⟨x7, 12, none⟩ = some (.slice none 0 0) := g7.cell 12
        have z12 : w5.frozen? ⟨x7, 12, none⟩ = false := g7.frozen 12
        have k6 : Kept (fun k => k = x7) w5 (w5.setCell ⟨x7, 12, none⟩ (.slice B1 m d1)) := (Kept.refl (fun k => k = x7) w5).setC
        have r7 : Blk (w5.setCell ⟨x7, 12, none⟩ (.slice B1 m d1)) x7 26 #[.int .i64 (N 0), .int .i64 (N 1), .int .i64 (N 2), .int .i64 (N 3), .int .u32 (N 4), .int .u32 (N 5), .bool (decide (N 6 = 1)), .bool (decide (N 7 = 1)), .bool (decide (N 8 = 1)), .bool (decide (N 9 = 1)), .int .i64 (N 10), .slice A7 n c7, .slice B1 m d1] := (g7.set_ 12 _).cast (by simp)
        have r6 : Blk (w5.setCell ⟨x7, 12, none⟩ (.slice B1 m d1)) x6 59 #[.int .u64 (N 0), .int .u64 (N 1), .int .u64 (N 2), .int .u64 (N 3), .int .u64 (N 4), .int .u64 (N 5), .int .u64 (flagsN N), .int .u64 (N 10), .int .u64 ((n : Int)), .int .u64 ((m : Int))] := (G6.out.fine f5).far hn6 _
        have r2 : Blk (w5.setCell ⟨x7, 12, none⟩ (.slice B1 m d1)) x2 26 #[.int .i64 0, .int .i64 0, .int .i64 0, .int .i64 0, .int .u32 0, .int .u32 0, .bool false, .bool false, .bool false, .bool false, .int .i64 0, .slice none 0 0, .slice none 0 0] := (G2.out.fine f5).far hn2 _
        have ro := own_far (GO.out.fine f5) (by decide) g7 k6
        have ru := ou.farT (by decide) g7 k6
        have rv := ov.farT (by decide) g7 k6
        have f06 : Fine w (w5.setCell ⟨x7, 12, none⟩ (.slice B1 m d1)) := f05.setCell hx7 _
        clear hbv f05 k6 ou ov G2 G6 G7 GO GD GF HDL HDT HDR e69 hx7 hn2 hn6
        go_upto_region 20 with (fail)
        generalize (w5.setCell ⟨x7, 12, none⟩ (.slice B1 m d1)) = w6 at r7 r6 r2 ro ru rv f06 ⊢
        clear e12 z12 g7 f5
        have s0 : w6.cell? ⟨x7, 0, none⟩ = some (.int .i64 (N 0)) := r7.cell 0
        have s1 : w6.cell? ⟨x7, 1, none⟩ = some (.int .i64 (N 1)) := r7.cell 1
        have s2 : w6.cell? ⟨x7, 2, none⟩ = some (.int .i64 (N 2)) := r7.cell 2
        have s3 : w6.cell? ⟨x7, 3, none⟩ = some (.int .i64 (N 3)) := r7.cell 3
        have s4 : w6.cell? ⟨x7, 4, none⟩ = some (.int .u32 (N 4)) := r7.cell 4
        have s5 : w6.cell? ⟨x7, 5, none⟩ = some (.int .u32 (N 5)) := r7.cell 5
        have s6 : w6.cell? ⟨x7, 6, none⟩ = some (.bool (decide (N 6 = 1))) := r7.cell 6
        have s7 : w6.cell? ⟨x7, 7, none⟩ = some (.bool (decide (N 7 = 1))) := r7.cell 7
        have s8 : w6.cell? ⟨x7, 8, none⟩ = some (.bool (decide (N 8 = 1))) := r7.cell 8
        have s9 : w6.cell? ⟨x7, 9, none⟩ = some (.bool (decide (N 9 = 1))) := r7.cell 9
        have s10 : w6.cell? ⟨x7, 10, none⟩ = some (.int .i64 (N 10)) := r7.cell 10
        have s11 : w6.cell? ⟨x7, 11, none⟩ = some (.slice A7 n c7) := r7.cell 11
        have s12 : w6.cell? ⟨x7, 12, none⟩ = some (.slice B1 m d1) := r7.cell 12
        have RO := Lib.hid ro; have RU := Lib.hid ru; have RV := Lib.hid rv; have R7 := Lib.hid r7; have R6 := Lib.hid r6; have R2 := Lib.hid r2; have F6 := Lib.hid f06
        clear ro ru rv r7 r6 r2 f06
        go_wp2_with fail
        refine (HPut.out A7 B1 c7 d1 w6 F6.out RO.out.rs.1 RU.out.bs.1).mono ?_
        rintro e w7 ⟨f7, ⟨_, v9, rfl, o9⟩ | ⟨hbad, _⟩⟩
        · obtain ⟨A10, c10, rfl, _, _⟩ := o9.form
          have heven := putOf_even (segB N l ds)
          have hple := put_len HR.out
          obtain ⟨Lg, hLg⟩ : ∃ x, (putOf (segB N l ds)).length = x := ⟨_, rfl⟩
          rw [hLg] at heven hple ⊢
          have hev : ((Lg : Int) % 2 != 0) = false := by simp; omega
          clear hLg o9 heven
          have e66 : w7.cell? ⟨x6, 6, none⟩ = some (.int .u64 (flagsN N)) := (R6.out.fine f7).cell 6
          have hf6 : ¬ flagsN N > 15 := by have := HF6.out; omega
          have r7 := R7.out.fine f7
          have f07 := F6.out.trans f7
          clear s0 s1 s2 s3 s4 s5 s6 s7 s8 s9 s10 s11 s12
          have s0 : w7.cell? ⟨x7, 0, none⟩ = some (.int .i64 (N 0)) := r7.cell 0
          have s1 : w7.cell? ⟨x7, 1, none⟩ = some (.int .i64 (N 1)) := r7.cell 1
          have s2 : w7.cell? ⟨x7, 2, none⟩ = some (.int .i64 (N 2)) := r7.cell 2
          have s3 : w7.cell? ⟨x7, 3, none⟩ = some (.int .i64 (N 3)) := r7.cell 3
          have s4 : w7.cell? ⟨x7, 4, none⟩ = some (.int .u32 (N 4)) := r7.cell 4
          have s5 : w7.cell? ⟨x7, 5, none⟩ = some (.int .u32 (N 5)) := r7.cell 5
          have s6 : w7.cell? ⟨x7, 6, none⟩ = some (.bool (decide (N 6 = 1))) := r7.cell 6
          have s7 : w7.cell? ⟨x7, 7, none⟩ = some (.bool (decide (N 7 = 1))) := r7.cell 7
          have s8 : w7.cell? ⟨x7, 8, none⟩ = some (.bool (decide (N 8 = 1))) := r7.cell 8
          have s9 : w7.cell? ⟨x7, 9, none⟩ = some (.bool (decide (N 9 = 1))) := r7.cell 9
          have s10 : w7.cell? ⟨x7, 10, none⟩ = some (.int .i64 (N 10)) := r7.cell 10
          have s11 : w7.cell? ⟨x7, 11, none⟩ = some (.slice A7 n c7) := r7.cell 11
          have s12 : w7.cell? ⟨x7, 12, none⟩ = some (.slice B1 m d1) := r7.cell 12
          rcases HPB.out.2 with rfl | rfl
          · have h0 : (0 : Int) ≤ 0 := by omega
            rw [show ([] : List Int).length = 0 from rfl]
            go_wp2_with fail
            refine (HSz.out A7 B1 c7 d1 w7 f07 (RO.out.rs.1.fine f7)).mono ?_
            rintro e w8 ⟨rfl, f8⟩
            clear s0 s1 s2 s3 s4 s5 s6 s7 s8 s9 s10 s11 s12
            obtain ⟨SZ, hSZ⟩ : ∃ x, 19 + (l.flatMap optB).length + m = x := ⟨_, rfl⟩
            have hpar : SZ % 2 = 0 := by
              have h1 := HPAR.out
              rw [HSL.out, ← HML.out] at h1
              have h2 : 19 + ((l.flatMap optB).length + m) = SZ := by rw [← hSZ, Nat.add_assoc]
              rw [h2] at h1
              exact h1
            have hod : ((SZ : Int) % 2 != 0) = false := by simp; omega
            rw [hSZ]
            have r7 := R7.out.fine (f7.trans f8)
            have r2 := R2.out.fine (f7.trans f8)
            have f08 := f07.trans f8
            have HRO := Lib.hid (RO.out.fine (f7.trans f8)); have HRU := Lib.hid (RU.out.fine (f7.trans f8)); have HR2 := Lib.hid r2
            have hx2 : w.heap.size ≤ x2 := by have := HX2.out; omega
            clear hpar hSZ f8 f07
            have t0 : w8.cell? ⟨x7, 0, none⟩ = some (.int .i64 (N 0)) := r7.cell 0
            have t1 : w8.cell? ⟨x7, 1, none⟩ = some (.int .i64 (N 1)) := r7.cell 1
            have t2 : w8.cell? ⟨x7, 2, none⟩ = some (.int .i64 (N 2)) := r7.cell 2
            have t3 : w8.cell? ⟨x7, 3, none⟩ = some (.int .i64 (N 3)) := r7.cell 3
            have t4 : w8.cell? ⟨x7, 4, none⟩ = some (.int .u32 (N 4)) := r7.cell 4
            have t5 : w8.cell? ⟨x7, 5, none⟩ = some (.int .u32 (N 5)) := r7.cell 5
            have t6 : w8.cell? ⟨x7, 6, none⟩ = some (.bool (decide (N 6 = 1))) := r7.cell 6
            have t7 : w8.cell? ⟨x7, 7, none⟩ = some (.bool (decide (N 7 = 1))) := r7.cell 7
            have t8 : w8.cell? ⟨x7, 8, none⟩ = some (.bool (decide (N 8 = 1))) := r7.cell 8
            have t9 : w8.cell? ⟨x7, 9, none⟩ = some (.bool (decide (N 9 = 1))) := r7.cell 9
            have t10 : w8.cell? ⟨x7, 10, none⟩ = some (.int .i64 (N 10)) := r7.cell 10
            have t11 : w8.cell? ⟨x7, 11, none⟩ = some (.slice A7 n c7) := r7.cell 11
            have t12 : w8.cell? ⟨x7, 12, none⟩ = some (.slice B1 m d1) := r7.cell 12
            have p0 : w8.cell? ⟨x2, 0, none⟩ = some (.int .i64 0) := r2.cell 0
            have p1 : w8.cell? ⟨x2, 1, none⟩ = some (.int .i64 0) := r2.cell 1
            have p2 : w8.cell? ⟨x2, 2, none⟩ = some (.int .i64 0) := r2.cell 2
            have p3 : w8.cell? ⟨x2, 3, none⟩ = some (.int .i64 0) := r2.cell 3
            have p4 : w8.cell? ⟨x2, 4, none⟩ = some (.int .u32 0) := r2.cell 4
            have p5 : w8.cell? ⟨x2, 5, none⟩ = some (.int .u32 0) := r2.cell 5
            have p6 : w8.cell? ⟨x2, 6, none⟩ = some (.bool false) := r2.cell 6
            have p7 : w8.cell? ⟨x2, 7, none⟩ = some (.bool false) := r2.cell 7
            have p8 : w8.cell? ⟨x2, 8, none⟩ = some (.bool false) := r2.cell 8
            have p9 : w8.cell? ⟨x2, 9, none⟩ = some (.bool false) := r2.cell 9
            have p10 : w8.cell? ⟨x2, 10, none⟩ = some (.int .i64 0) := r2.cell 10
            have p11 : w8.cell? ⟨x2, 11, none⟩ = some (.slice none 0 0) := r2.cell 11
            have p12 : w8.cell? ⟨x2, 12, none⟩ = some (.slice none 0 0) := r2.cell 12
            have y0 : w8.frozen? ⟨x2, 0, none⟩ = false := r2.frozen 0
            have y1 : w8.frozen? ⟨x2, 1, none⟩ = false := r2.frozen 1
            have y2 : w8.frozen? ⟨x2, 2, none⟩ = false := r2.frozen 2
            have y3 : w8.frozen? ⟨x2, 3, none⟩ = false := r2.frozen 3
            have y4 : w8.frozen? ⟨x2, 4, none⟩ = false := r2.frozen 4
            have y5 : w8.frozen? ⟨x2, 5, none⟩ = false := r2.frozen 5
            have y6 : w8.frozen? ⟨x2, 6, none⟩ = false := r2.frozen 6
            have y7 : w8.frozen? ⟨x2, 7, none⟩ = false := r2.frozen 7
            have y8 : w8.frozen? ⟨x2, 8, none⟩ = false := r2.frozen 8
            have y9 : w8.frozen? ⟨x2, 9, none⟩ = false := r2.frozen 9
            have y10 : w8.frozen? ⟨x2, 10, none⟩ = false := r2.frozen 10
            have y11 : w8.frozen? ⟨x2, 11, none⟩ = false := r2.frozen 11
            have y12 : w8.frozen? ⟨x2, 12, none⟩ = false := r2.frozen 12
            have fe : Fine w (((((((((((((w8.setCell ⟨x2, 0, none⟩ (.int .i64 (N 0))).setCell ⟨x2, 1, none⟩ (.int .i64 (N 1))).setCell ⟨x2, 2, none⟩ (.int .i64 (N 2))).setCell ⟨x2, 3, none⟩ (.int .i64 (N 3))).setCell ⟨x2, 4, none⟩ (.int .u32 (N 4))).setCell ⟨x2, 5, none⟩ (.int .u32 (N 5))).setCell ⟨x2, 6, none⟩ (.bool (decide (N 6 = 1)))).setCell ⟨x2, 7, none⟩ (.bool (decide (N 7 = 1)))).setCell ⟨x2, 8, none⟩ (.bool (decide (N 8 = 1)))).setCell ⟨x2, 9, none⟩ (.bool (decide (N 9 = 1)))).setCell ⟨x2, 10, none⟩ (.int .i64 (N 10))).setCell ⟨x2, 11, none⟩ (.slice A7 n c7)).setCell ⟨x2, 12, none⟩ (.slice B1 m d1)) := by repeat (first | with_reducible exact f08 | with_reducible refine Fine.setCell ?_ hx2 _)
            have ke : Kept (fun k => k = x2) w8 (((((((((((((w8.setCell ⟨x2, 0, none⟩ (.int .i64 (N 0))).setCell ⟨x2, 1, none⟩ (.int .i64 (N 1))).setCell ⟨x2, 2, none⟩ (.int .i64 (N 2))).setCell ⟨x2, 3, none⟩ (.int .i64 (N 3))).setCell ⟨x2, 4, none⟩ (.int .u32 (N 4))).setCell ⟨x2, 5, none⟩ (.int .u32 (N 5))).setCell ⟨x2, 6, none⟩ (.bool (decide (N 6 = 1)))).setCell ⟨x2, 7, none⟩ (.bool (decide (N 7 = 1)))).setCell ⟨x2, 8, none⟩ (.bool (decide (N 8 = 1)))).setCell ⟨x2, 9, none⟩ (.bool (decide (N 9 = 1)))).setCell ⟨x2, 10, none⟩ (.int .i64 (N 10))).setCell ⟨x2, 11, none⟩ (.slice A7 n c7)).setCell ⟨x2, 12, none⟩ (.slice B1 m d1)) := by repeat (first | with_reducible exact Kept.refl _ _ | with_reducible refine Kept.setC ?_)
            have FE := Lib.hid fe; have HRS := Lib.hid (own_far HRO.out (by decide) HR2.out ke).rs.1; have HBS := Lib.hid (HRU.out.farT (by decide) HR2.out ke).bs.1
            clear r7 r2 fe ke
            go_wp2_with fail
            exact bodyPost_ret (v := .tuple #[.agg #[.int .i64 (N 0), .int .i64 (N 1), .int .i64 (N 2), .int .i64 (N 3), .int .u32 (N 4), .int .u32 (N 5), .bool (decide (N 6 = 1)), .bool (decide (N 7 = 1)), .bool (decide (N 8 = 1)), .bool (decide (N 9 = 1)), .int .i64 (N 10), .slice A7 n c7, .slice B1 m d1], .int .i64 0]) (by simp [results, Tryd.results19, go_sem, t0, p0, t1, p1, t2, p2, t3, p3, t4, p4, t5, p5, t6, p6, t7, p7, t8, p8, t9, p9, t10, p10, t11, p11, t12, p12]) rfl ⟨A7, c7, B1, d1, rfl, HRS.out, HBS.out, FE.out⟩
          · have hrv := RV.out.fine f7
            obtain ⟨g9, rfl, _, _⟩ := hrv.head (by simp)
            obtain ⟨b', off', e7, _, hc⟩ := hrv.bs.1.at_ (k := 0) (by simp)
            injection e7 with e7
            injection e7 with e71 e72 _
            subst e71 e72
            have hc0 : w7.cell? ⟨g9, 0, none⟩ = some (.int .u8 0) := hc
            rw [show ([0] : List Int).length = 1 from rfl]
            clear hrv hc
            go_wp2_with fail
            refine (HSz.out A7 B1 c7 d1 w7 f07 (RO.out.rs.1.fine f7)).mono ?_
            rintro e w8 ⟨rfl, f8⟩
            clear s0 s1 s2 s3 s4 s5 s6 s7 s8 s9 s10 s11 s12
            obtain ⟨SZ, hSZ⟩ : ∃ x, 19 + (l.flatMap optB).length + m = x := ⟨_, rfl⟩
            have hpar : SZ % 2 = 1 := by
              have h1 := HPAR.out
              rw [HSL.out, ← HML.out] at h1
              have h2 : 19 + ((l.flatMap optB).length + m) = SZ := by rw [← hSZ, Nat.add_assoc]
              rw [h2] at h1
              exact h1
            have hod : ((SZ : Int) % 2 != 0) = true := by simp; omega
            rw [hSZ]
            have r7 := R7.out.fine (f7.trans f8)
            have r2 := R2.out.fine (f7.trans f8)
            have f08 := f07.trans f8
            have HRO := Lib.hid (RO.out.fine (f7.trans f8)); have HRU := Lib.hid (RU.out.fine (f7.trans f8)); have HR2 := Lib.hid r2
            have hx2 : w.heap.size ≤ x2 := by have := HX2.out; omega
            clear hpar hSZ f8 f07
            have t0 : w8.cell? ⟨x7, 0, none⟩ = some (.int .i64 (N 0)) := r7.cell 0
            have t1 : w8.cell? ⟨x7, 1, none⟩ = some (.int .i64 (N 1)) := r7.cell 1
            have t2 : w8.cell? ⟨x7, 2, none⟩ = some (.int .i64 (N 2)) := r7.cell 2
            have t3 : w8.cell? ⟨x7, 3, none⟩ = some (.int .i64 (N 3)) := r7.cell 3
            have t4 : w8.cell? ⟨x7, 4, none⟩ = some (.int .u32 (N 4)) := r7.cell 4
            have t5 : w8.cell? ⟨x7, 5, none⟩ = some (.int .u32 (N 5)) := r7.cell 5
            have t6 : w8.cell? ⟨x7, 6, none⟩ = some (.bool (decide (N 6 = 1))) := r7.cell 6
            have t7 : w8.cell? ⟨x7, 7, none⟩ = some (.bool (decide (N 7 = 1))) := r7.cell 7
            have t8 : w8.cell? ⟨x7, 8, none⟩ = some (.bool (decide (N 8 = 1))) := r7.cell 8
            have t9 : w8.cell? ⟨x7, 9, none⟩ = some (.bool (decide (N 9 = 1))) := r7.cell 9
            have t10 : w8.cell? ⟨x7, 10, none⟩ = some (.int .i64 (N 10)) := r7.cell 10
            have t11 : w8.cell? ⟨x7, 11, none⟩ = some (.slice A7 n c7) := r7.cell 11
            have t12 : w8.cell? ⟨x7, 12, none⟩ = some (.slice B1 m d1) := r7.cell 12
            have p0 : w8.cell? ⟨x2, 0, none⟩ = some (.int .i64 0) := r2.cell 0
            have p1 : w8.cell? ⟨x2, 1, none⟩ = some (.int .i64 0) := r2.cell 1
            have p2 : w8.cell? ⟨x2, 2, none⟩ = some (.int .i64 0) := r2.cell 2
            have p3 : w8.cell? ⟨x2, 3, none⟩ = some (.int .i64 0) := r2.cell 3
            have p4 : w8.cell? ⟨x2, 4, none⟩ = some (.int .u32 0) := r2.cell 4
            have p5 : w8.cell? ⟨x2, 5, none⟩ = some (.int .u32 0) := r2.cell 5
            have p6 : w8.cell? ⟨x2, 6, none⟩ = some (.bool false) := r2.cell 6
            have p7 : w8.cell? ⟨x2, 7, none⟩ = some (.bool false) := r2.cell 7
            have p8 : w8.cell? ⟨x2, 8, none⟩ = some (.bool false) := r2.cell 8
            have p9 : w8.cell? ⟨x2, 9, none⟩ = some (.bool false) := r2.cell 9
            have p10 : w8.cell? ⟨x2, 10, none⟩ = some (.int .i64 0) := r2.cell 10
            have p11 : w8.cell? ⟨x2, 11, none⟩ = some (.slice none 0 0) := r2.cell 11
            have p12 : w8.cell? ⟨x2, 12, none⟩ = some (.slice none 0 0) := r2.cell 12
            have y0 : w8.frozen? ⟨x2, 0, none⟩ = false := r2.frozen 0
            have y1 : w8.frozen? ⟨x2, 1, none⟩ = false := r2.frozen 1
            have y2 : w8.frozen? ⟨x2, 2, none⟩ = false := r2.frozen 2
            have y3 : w8.frozen? ⟨x2, 3, none⟩ = false := r2.frozen 3
            have y4 : w8.frozen? ⟨x2, 4, none⟩ = false := r2.frozen 4
            have y5 : w8.frozen? ⟨x2, 5, none⟩ = false := r2.frozen 5
            have y6 : w8.frozen? ⟨x2, 6, none⟩ = false := r2.frozen 6
            have y7 : w8.frozen? ⟨x2, 7, none⟩ = false := r2.frozen 7
            have y8 : w8.frozen? ⟨x2, 8, none⟩ = false := r2.frozen 8
            have y9 : w8.frozen? ⟨x2, 9, none⟩ = false := r2.frozen 9
            have y10 : w8.frozen? ⟨x2, 10, none⟩ = false := r2.frozen 10
            have y11 : w8.frozen? ⟨x2, 11, none⟩ = false := r2.frozen 11
            have y12 : w8.frozen? ⟨x2, 12, none⟩ = false := r2.frozen 12
            have fe : Fine w (((((((((((((w8.setCell ⟨x2, 0, none⟩ (.int .i64 (N 0))).setCell ⟨x2, 1, none⟩ (.int .i64 (N 1))).setCell ⟨x2, 2, none⟩ (.int .i64 (N 2))).setCell ⟨x2, 3, none⟩ (.int .i64 (N 3))).setCell ⟨x2, 4, none⟩ (.int .u32 (N 4))).setCell ⟨x2, 5, none⟩ (.int .u32 (N 5))).setCell ⟨x2, 6, none⟩ (.bool (decide (N 6 = 1)))).setCell ⟨x2, 7, none⟩ (.bool (decide (N 7 = 1)))).setCell ⟨x2, 8, none⟩ (.bool (decide (N 8 = 1)))).setCell ⟨x2, 9, none⟩ (.bool (decide (N 9 = 1)))).setCell ⟨x2, 10, none⟩ (.int .i64 (N 10))).setCell ⟨x2, 11, none⟩ (.slice A7 n c7)).setCell ⟨x2, 12, none⟩ (.slice B1 m d1)) := by repeat (first | with_reducible exact f08 | with_reducible refine Fine.setCell ?_ hx2 _)
            have ke : Kept (fun k => k = x2) w8 (((((((((((((w8.setCell ⟨x2, 0, none⟩ (.int .i64 (N 0))).setCell ⟨x2, 1, none⟩ (.int .i64 (N 1))).setCell ⟨x2, 2, none⟩ (.int .i64 (N 2))).setCell ⟨x2, 3, none⟩ (.int .i64 (N 3))).setCell ⟨x2, 4, none⟩ (.int .u32 (N 4))).setCell ⟨x2, 5, none⟩ (.int .u32 (N 5))).setCell ⟨x2, 6, none⟩ (.bool (decide (N 6 = 1)))).setCell ⟨x2, 7, none⟩ (.bool (decide (N 7 = 1)))).setCell ⟨x2, 8, none⟩ (.bool (decide (N 8 = 1)))).setCell ⟨x2, 9, none⟩ (.bool (decide (N 9 = 1)))).setCell ⟨x2, 10, none⟩ (.int .i64 (N 10))).setCell ⟨x2, 11, none⟩ (.slice A7 n c7)).setCell ⟨x2, 12, none⟩ (.slice B1 m d1)) := by repeat (first | with_reducible exact Kept.refl _ _ | with_reducible refine Kept.setC ?_)
            have FE := Lib.hid fe; have HRS := Lib.hid (own_far HRO.out (by decide) HR2.out ke).rs.1; have HBS := Lib.hid (HRU.out.farT (by decide) HR2.out ke).bs.1
            clear r7 r2 fe ke
            go_wp2_with fail
            exact bodyPost_ret (v := .tuple #[.agg #[.int .i64 (N 0), .int .i64 (N 1), .int .i64 (N 2), .int .i64 (N 3), .int .u32 (N 4), .int .u32 (N 5), .bool (decide (N 6 = 1)), .bool (decide (N 7 = 1)), .bool (decide (N 8 = 1)), .bool (decide (N 9 = 1)), .int .i64 (N 10), .slice A7 n c7, .slice B1 m d1], .int .i64 0]) (by simp [results, Tryd.results19, go_sem, t0, p0, t1, p1, t2, p2, t3, p3, t4, p4, t5, p5, t6, p6, t7, p7, t8, p8, t9, p9, t10, p10, t11, p11, t12, p12]) rfl ⟨A7, c7, B1, d1, rfl, HRS.out, HBS.out, FE.out⟩
        · rw [HR.out] at hbad
          cases hbad
end Go.Proofs.YthnennleblgjeaaDoor
