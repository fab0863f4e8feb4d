/- Nets: the laws' example; NetNil. -/
import Derived.Test.YthnennleblgjeaaDoorXNet3
import Derived.Test.YthnennleblgjeaaDoorXSeg16
namespace Go.Proofs.YthnennleblgjeaaDoor
set_option linter.unusedVariables false
set_option linter.unusedSimpArgs false
open Go.ChangeShapes Go.WideShapes Go.ChangeAt Go.RowKit
set_option linter.unusedVariables false
set_option linter.unusedSimpArgs false
/-- A segment that has but a number. -/
def szN (q : Int) : Nat → Int := fun j => match j with | 4 => q | _ => 0
def sz (q : Int) : Sg := ⟨szN q, none, 0, [], none, 0, []⟩
theorem szN_ok {q : Int} (hq : 0 ≤ q ∧ q < 4294967296) : OkN (szN q) := fun j hj => by
  match j, hj with
  | 0, _ => exact zeroN_ok 0 (by decide) | 1, _ => exact zeroN_ok 1 (by decide) | 2, _ => exact zeroN_ok 2 (by decide) | 3, _ => exact zeroN_ok 3 (by decide) | 4, _ => exact hq | 5, _ => exact zeroN_ok 5 (by decide) | 6, _ => exact Or.inl rfl | 7, _ => exact Or.inl rfl | 8, _ => exact Or.inl rfl | 9, _ => exact Or.inl rfl | 10, _ => exact zeroN_ok 10 (by decide)
theorem sz_at {q : Int} (hq : 0 ≤ q ∧ q < 4294967296) (w : World) : (sz q).At w := ⟨szN_ok hq, RS.nil_ _ _, fun V hV => (by cases hV), BS.nil_ _⟩
theorem sz_right (q : Int) : sgR (sz q) = true := rfl
theorem pv_at {ps : List Pk} {l : List (Int × List Int)} (h : pv ps = l) {i : Nat} {a : Int} {x : List Int} (hi : l[i]? = some (a, x)) : ∃ p, ps[i]? = some p ∧ p.side = a ∧ p.xs = x := by
  subst h
  unfold pv at hi
  rw [List.getElem?_map] at hi
  cases e : ps[i]? with
  | none => rw [e] at hi; cases hi
  | some p =>
    rw [e] at hi
    injection hi with hi
    injection hi with h1 h2
    exact ⟨p, rfl, h1, h2⟩
theorem pv_len {ps : List Pk} {l : List (Int × List Int)} (h : pv ps = l) : ps.length = l.length := by subst h; simp [pv]
/-- Get of such a segment's bytes. -/
theorem getZ_any (q : Int) (hq : 0 ≤ q ∧ q < 4294967296) (A : Option Addr) (k c : Nat) (xs : List Int) (hx : xs = sgB (sz q)) (w : World) (hT : TabW w) (h : BS w A c xs) (hk : k = xs.length) :
    Calls Tryd.prog 19 #[.slice A k c] w fun r w' => ∃ A1 c1 B1 d1, r = .returned (.tuple #[.agg #[.int .i64 0, .int .i64 0, .int .i64 0, .int .i64 0, .int .u32 q, .int .u32 0, .bool false, .bool false, .bool false, .bool false, .int .i64 0, .slice A1 0 c1, .slice B1 0 d1], .int .i64 0]) ∧ Fine w w' := by
  subst hx
  refine (getGood_any (szN q) A k c 0 0 [] [] rfl rfl (szN_ok hq) (fun V hV => by cases hV) Bytes.nil (sz_right q) w hT h hk).mono ?_
  rintro r w' ⟨A1, c1, B1, d1, rfl, _, _, f⟩
  exact ⟨A1, c1, B1, d1, rfl, f⟩
theorem szB_len (q : Int) : (sgB (sz q)).length = 22 := bare_len (szN q)
set_option maxHeartbeats 4000000 in
set_option maxRecDepth 100000 in
theorem nwakes_any (w : World) (hT : TabW w) : Calls Tryd.prog 24 #[] w fun r w' => r = .returned (.bool true) ∧ Fine w w' := by
  have HT := Lib.hid hT; clear hT
  go_enter Tryd.func24, Tryd.ntmps24
  go_wp2_with fail
  refine (new_any w).mono ?_
  rintro x w1 ⟨g, rfl, hN, f1⟩
  have HN := Lib.hid hN; clear hN
  go_wp2_with fail
  have f2 : Fine w1 (w1.alloc (.cells #[.int .i64 0, .int .i64 0, .int .i64 0, .int .i64 0, .int .u32 1, .int .u32 0, .bool false, .bool false, .bool false, .bool false, .int .i64 0, .slice none 0 0, .slice none 0 0, .int .i64 0, .int .i64 0, .int .i64 0, .int .i64 0, .int .u32 2, .int .u32 0, .bool false, .bool false, .bool false, .bool false, .int .i64 0, .slice none 0 0, .slice none 0 0] 26)) := (Fine.refl w1).alloc _
  have hb : Blk (w1.alloc (.cells #[.int .i64 0, .int .i64 0, .int .i64 0, .int .i64 0, .int .u32 1, .int .u32 0, .bool false, .bool false, .bool false, .bool false, .int .i64 0, .slice none 0 0, .slice none 0 0, .int .i64 0, .int .i64 0, .int .i64 0, .int .i64 0, .int .u32 2, .int .u32 0, .bool false, .bool false, .bool false, .bool false, .int .i64 0, .slice none 0 0, .slice none 0 0] 26)) w1.heap.size 26 #[.int .i64 0, .int .i64 0, .int .i64 0, .int .i64 0, .int .u32 1, .int .u32 0, .bool false, .bool false, .bool false, .bool false, .int .i64 0, .slice none 0 0, .slice none 0 0, .int .i64 0, .int .i64 0, .int .i64 0, .int .i64 0, .int .u32 2, .int .u32 0, .bool false, .bool false, .bool false, .bool false, .int .i64 0, .slice none 0 0, .slice none 0 0] := Blk.new w1 26 _
  have hr : RS layS (w1.alloc (.cells #[.int .i64 0, .int .i64 0, .int .i64 0, .int .i64 0, .int .u32 1, .int .u32 0, .bool false, .bool false, .bool false, .bool false, .int .i64 0, .slice none 0 0, .slice none 0 0, .int .i64 0, .int .i64 0, .int .i64 0, .int .i64 0, .int .u32 2, .int .u32 0, .bool false, .bool false, .bool false, .bool false, .int .i64 0, .slice none 0 0, .slice none 0 0] 26)) (some ⟨w1.heap.size, 0, none⟩) 2 [sz 1, sz 2] := RS.ofBlk hb rfl rfl (by unfold maxLen; omega)
  refine (send_any w HT.out g w1.heap.size 0 2 [] 1 (by decide) 2 [sz 1, sz 2] rfl (by decide) (by decide) (fun s hs => by
    have hs : s = sz 1 ∨ s = sz 2 := by simpa using hs
    rcases hs with rfl | rfl
    · exact sz_at (by decide) w
    · exact sz_at (by decide) w) _ (f1.trans f2) (HN.out.fine f2) ⟨_, hb⟩ hr).mono ?_
  rintro x w3 ⟨ps, k, rfl, hN3, f3, hlen, hle, hpv⟩
  have hpv : pv ps = [(1, sgB (sz 1)), (1, sgB (sz 2))] := hpv
  have hl2 : ps.length = 2 := pv_len hpv
  obtain ⟨p, hp, hside, hxs⟩ := pv_at hpv (i := 1) rfl
  obtain rfl : k = 2 := by simp at hlen; omega
  have hpl : p.xs.length = 22 := by rw [hxs]; exact szB_len 2
  have HN3 := Lib.hid hN3.r; have HP := Lib.hid hp; have HS := Lib.hid hside; have HX := Lib.hid hxs; have HPL := Lib.hid hpl; have HL2 := Lib.hid hl2
  clear hN3 hp hside hxs hpl hl2 hpv hlen hle hb hr f2 f1
  go_wp2_with fail
  refine (ntake_any w.heap.size g ps p 1 HP.out (by have := HL2.out; omega) (by have := HPL.out; omega) 22 1 HPL.out HS.out w3 HN3.out).mono ?_
  rintro x w4 ⟨A', c', rfl, o4, _, k4⟩
  have f4 : Fine w w4 := f3.kept k4 (fun x hx e => by obtain ⟨_, _, hge, _⟩ := HN3.out; omega)
  have HO4 := Lib.hid o4; clear o4 f3 k4
  go_upto_region 5 with (fail)
  have b5 : Blk (w4.alloc (.cells #[.int .i64 1, .slice A' 22 c'] 48)) w4.heap.size 48 #[.int .i64 1, .slice A' 22 c'] := Blk.new w4 48 _
  have f : Fine w4 (w4.alloc (.cells #[.int .i64 1, .slice A' 22 c'] 48)) := (Fine.refl w4).alloc _
  generalize (w4.alloc (.cells #[.int .i64 1, .slice A' 22 c'] 48)) = w5 at b5 f ⊢
  generalize w4.heap.size = x5 at b5 ⊢
  have f5 := f4.trans f
  have HO5 := Lib.hid (HO4.out.fine f)
  have a0 : w5.cell? ⟨x5, 0, none⟩ = some (.int .i64 1) := b5.cell 0
  have a1 : w5.cell? ⟨x5, 1, none⟩ = some (.slice A' 22 c') := b5.cell 1
  clear f f4
  go_wp2_with fail
  refine (getZ_any 2 (by decide) A' 22 c' p.xs HX.out w5 (HT.out.fine f5) HO5.out.bs.1 HPL.out.symm).mono ?_
  rintro x w6 ⟨A1, c1, B1, d1, rfl, f⟩
  have f6 := f5.trans f
  have b6 := b5.fine f
  clear a0 a1
  clear b5 f f5
  go_upto_region 6 with (fail)
  have b7 : Blk (w6.alloc (.cells #[.int .i64 0, .int .i64 0, .int .i64 0, .int .i64 0, .int .u32 2, .int .u32 0, .bool false, .bool false, .bool false, .bool false, .int .i64 0, .slice A1 0 c1, .slice B1 0 d1] 26)) w6.heap.size 26 #[.int .i64 0, .int .i64 0, .int .i64 0, .int .i64 0, .int .u32 2, .int .u32 0, .bool false, .bool false, .bool false, .bool false, .int .i64 0, .slice A1 0 c1, .slice B1 0 d1] := Blk.new w6 26 _
  have f7 := f6.alloc (.cells #[.int .i64 0, .int .i64 0, .int .i64 0, .int .i64 0, .int .u32 2, .int .u32 0, .bool false, .bool false, .bool false, .bool false, .int .i64 0, .slice A1 0 c1, .slice B1 0 d1] 26)
  have b6 := b6.alloc (.cells #[.int .i64 0, .int .i64 0, .int .i64 0, .int .i64 0, .int .u32 2, .int .u32 0, .bool false, .bool false, .bool false, .bool false, .int .i64 0, .slice A1 0 c1, .slice B1 0 d1] 26)
  generalize (w6.alloc (.cells #[.int .i64 0, .int .i64 0, .int .i64 0, .int .i64 0, .int .u32 2, .int .u32 0, .bool false, .bool false, .bool false, .bool false, .int .i64 0, .slice A1 0 c1, .slice B1 0 d1] 26)) = w7 at b7 f7 b6 ⊢
  generalize w6.heap.size = x7 at b7 ⊢
  have a0 : w7.cell? ⟨x5, 0, none⟩ = some (.int .i64 1) := b6.cell 0
  have a4 : w7.cell? ⟨x7, 4, none⟩ = some (.int .u32 2) := b7.cell 4
  clear f6 b6 b7
  go_wp2_with fail
  go_ret
  exact ⟨rfl, f7⟩
set_option maxHeartbeats 4000000 in
set_option maxRecDepth 100000 in
theorem netNil_any (i : Int) (w : World) (hT : TabW w) : Calls Tryd.prog 11 #[.int .i64 i] w fun r w' => r = .returned (.bool true) ∧ Fine w w' := by
  go_enter Tryd.func11, Tryd.ntmps11
  go_wp2_with fail
  refine (nwakes_any w hT).mono ?_
  rintro x w1 ⟨rfl, f1⟩
  clear hT
  go_wp2_with fail
  refine (clear_nil w1).mono ?_
  rintro x w2 ⟨rfl, f⟩
  have f2 := f1.trans f
  clear f1 f
  go_wp2_with fail
  refine (take_nil i w2).mono ?_
  rintro x w3 ⟨rfl, f⟩
  have f3 := f2.trans f
  clear f2 f
  go_wp2_with fail
  have f := f3.alloc (.cells #[.int .i64 0, .slice none 0 0] 48)
  generalize (w3.alloc (.cells #[.int .i64 0, .slice none 0 0] 48)) = w4 at f ⊢
  refine (copy_nil i w4).mono ?_
  rintro x w5 ⟨rfl, f'⟩
  have f5 := f.trans f'
  clear f3 f f'
  go_wp2_with fail
  have f : Fine w ((w5.alloc (.cells #[.int .i64 0, .slice none 0 0] 48)).alloc (.cells #[.int .i64 0, .int .i64 0, .int .i64 0, .int .i64 0, .int .u32 0, .int .u32 0, .bool false, .bool false, .bool false, .bool false, .int .i64 0, .slice none 0 0, .slice none 0 0] 26)) := (f5.alloc _).alloc _
  generalize ((w5.alloc (.cells #[.int .i64 0, .slice none 0 0] 48)).alloc (.cells #[.int .i64 0, .int .i64 0, .int .i64 0, .int .i64 0, .int .u32 0, .int .u32 0, .bool false, .bool false, .bool false, .bool false, .int .i64 0, .slice none 0 0, .slice none 0 0] 26)) = w6 at f ⊢
  refine (send_nil _ _ w6).mono ?_
  rintro x w7 ⟨rfl, f'⟩
  have f7 := f.trans f'
  clear f5 f f'
  go_wp2_with fail
  refine (spoil_nil i i i w7).mono ?_
  rintro x w8 ⟨rfl, f⟩
  have f8 := f7.trans f
  clear f7 f
  go_wp2_with fail
  refine (all_nil w8).mono ?_
  rintro x w9 ⟨rfl, f⟩
  have f9 := f8.trans f
  clear f8 f
  go_wp2_with fail
  refine (len_nil w9).mono ?_
  rintro x w10 ⟨rfl, f⟩
  have f10 := f9.trans f
  clear f9 f
  go_wp2_with fail
  go_ret
  exact ⟨rfl, f10⟩
end Go.Proofs.YthnennleblgjeaaDoor
