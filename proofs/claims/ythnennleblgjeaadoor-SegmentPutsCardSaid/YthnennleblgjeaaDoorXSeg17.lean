/- The document's bytes of a right segment: Head, Bytes; segment.Long. -/
import Derived.Test.YthnennleblgjeaaDoorXSeg8
import Derived.Test.YthnennleblgjeaaDoorXOptRef3
import Derived.IntWalk
import Derived.Deep.RegionHeld3
import Derived.Deep.RegionLaw
import Derived.Deep.CutBlock
import Derived.Deep.DeepCutAuto
namespace Go.Proofs.YthnennleblgjeaaDoor
set_option linter.unusedVariables false
set_option linter.unusedSimpArgs false
open Go.ChangeShapes Go.WideShapes Go.ChangeAt Go.RowKit
set_option linter.unusedVariables false
set_option linter.unusedSimpArgs false
theorem flag_q (t : Bool) (n : Int) (w : World) : Calls Tryd.prog 68 #[.bool t, .int .u8 n] w fun r w' => r = .returned (.int .u8 (if t then n else 0)) ∧ w' = w := by
  cases t
  · go_enter Tryd.func68, Tryd.ntmps68
    go_wp2_with fail
    go_ret
    exact ⟨rfl, rfl⟩
  · go_enter Tryd.func68, Tryd.ntmps68
    go_wp2_with fail
    go_ret
    exact ⟨rfl, rfl⟩
theorem flag_n {x : Int} (hx : x = 0 ∨ x = 1) (k : Int) (w : World) : Calls Tryd.prog 68 #[.bool (decide (x = 1)), .int .u8 k] w fun r w' => r = .returned (.int .u8 (x * k)) ∧ w' = w := by
  refine (flag_q (decide (x = 1)) k w).mono ?_
  rintro r w' ⟨rfl, rfl⟩
  refine ⟨?_, rfl⟩
  rcases hx with rfl | rfl
  · rw [Int.zero_mul]; rfl
  · rw [Int.one_mul]; rfl
theorem head_eq (N : Nat → Int) (n m : Int) (h0 : 0 ≤ N 0 ∧ N 0 ≤ 3) (h1 : 0 ≤ N 1 ∧ N 1 ≤ 3) (h2 : 0 ≤ N 2 ∧ N 2 ≤ 65535) (h3 : 0 ≤ N 3 ∧ N 3 ≤ 65535) (h10 : 0 ≤ N 10 ∧ N 10 ≤ 65535) (hn : 0 ≤ n ∧ n ≤ 4) (hm : 0 ≤ m ∧ m ≤ 8) :
    [N 0, N 1, N 2 / 256, N 2 % 256, N 3 / 256, N 3 % 256] ++ be 4 (N 4) ++ be 4 (N 5) ++ [flagsN N, N 10 / 256, N 10 % 256, n, m] = headB N n m := by
  have hf := flagsN_bd N
  have e1 : ∀ x : Int, 0 ≤ x ∧ x ≤ 255 → be 1 x = [x] := fun x hx => by
    rw [be_cons, show be 0 x = [] from rfl, Int.pow_zero, Int.ediv_one, Int.emod_eq_of_lt hx.1 (by omega)]
  have e2 : ∀ x : Int, 0 ≤ x ∧ x ≤ 65535 → be 2 x = [x / 256, x % 256] := fun x hx => be2 x hx
  unfold headB headNs rowB
  simp only [List.flatMap_cons, List.flatMap_nil]
  rw [e1 (N 0) (by omega), e1 (N 1) (by omega), e2 (N 2) h2, e2 (N 3) h3, e1 (flagsN N) (by omega), e2 (N 10) h10, e1 n (by omega), e1 m (by omega)]
  simp
def SB (w0 : World) (base x1 : Nat) (cs : Array Value) (L : List Int) (v : Value) (w' : World) : Prop := Fine w0 w' ∧ w0.heap.size ≤ base ∧ x1 < base ∧ base ≤ w'.heap.size ∧ Blk w' x1 26 cs ∧ OwnB w' base v L
theorem SB.fine {w0 : World} {base x1 : Nat} {cs : Array Value} {L : List Int} {v : Value} {w w' : World} (h : SB w0 base x1 cs L v w) (f : Fine w w') : SB w0 base x1 cs L v w' := by
  obtain ⟨h1, h2, h3, h4, h5, h6⟩ := h
  exact ⟨h1.trans f, h2, h3, Nat.le_trans h4 f.size, h5.fine f, h6.fine f⟩
theorem SB.app {w0 : World} {base x1 : Nat} {cs : Array Value} {L ys : List Int} {v v' : Value} {w w' : World} (h : SB w0 base x1 cs L v w) (ho : OwnB w' base v' (L ++ ys)) (hk : Kept (fun k => base ≤ k) w w') : SB w0 base x1 cs (L ++ ys) v' w' := by
  obtain ⟨h1, h2, h3, h4, h5, h6⟩ := h
  exact ⟨h1.kept hk (fun x hx e => by omega), h2, h3, Nat.le_trans h4 hk.size, h5.kept hk (by omega), ho⟩
theorem wpList_appS2 {w0 : World} {w : World} {ops : Array Oper} {rest : List Oper} {o : Oper} {a : Act} {Q : Exit → Act → World → Prop} (hgd : o.guard = none) (s x : Operand)
    (ho : o.op = .call { callee := .builtin .append, args := #[s, x], argTypes := #[24, 24] })
    (base x1 : Nat) (cs : Array Value) (L : List Int) (v : Value) (hs : a.eval s = v) (hR : Hid (SB w0 base x1 cs L v w)) (A : Option Addr) (m c : Nat) (ys : List Int) (hx : a.eval x = .slice A m c) (hm : m = ys.length) (hr : BS w A c ys)
    (hlen : Hid (L.length + ys.length ≤ 100000))
    (h : ∀ A' n c' w', Hid (SB w0 base x1 cs (L ++ ys) (.slice A' n c') w') → wpList Tryd.prog ops Q rest (a.put o.dst (.slice A' n c')) w') : wpList Tryd.prog ops Q (o :: rest) a w :=
  wpList_appB hgd s x ho base v L hs hR.out.2.2.2.2.2 A m c ys hx hm hr (by have := hlen.out; omega) hR.out.2.2.2.1 fun v' w' h2 h3 h4 h5 => by
    obtain ⟨A', c', e, hb, _⟩ := h2.form
    subst e
    exact h A' _ c' w' (Lib.hid (hR.out.app h2 h3))
set_option maxHeartbeats 4000000 in
set_option maxRecDepth 100000 in
theorem head_any (N : Nat → Int) (A B : Option Addr) (n m c d : Nat) (l : List (Nat → Int)) (xs : List Int) (hn : n = l.length) (hm : m = xs.length) (hN : OkN N) (hr : segRightB N l xs = true) (hV : ∀ V ∈ l, OkV V) (w : World) (h1 : RS layO w A c l) (h2 : BS w B d xs) :
    Calls Tryd.prog 51 #[.agg #[.int .i64 (N 0), .int .i64 (N 1), .int .i64 (N 2), .int .i64 (N 3), .int .u32 (N 4), .int .u32 (N 5), .bool (decide (N 6 = 1)), .bool (decide (N 7 = 1)), .bool (decide (N 8 = 1)), .bool (decide (N 9 = 1)), .int .i64 (N 10), .slice A n c, .slice B m d]] w fun r w' => ∃ v, r = .returned v ∧ OwnB w' w.heap.size v (segB N l xs) ∧ Fine w w' := by
  have H1 := Lib.hid h1; clear h1
  have H2 := Lib.hid h2; clear h2
  have HNL := Lib.hid hn; clear hn
  have HML := Lib.hid hm; clear hm
  have HV := Lib.hid hV; clear hV
  obtain ⟨hr0, hr1, hr2, hr3, hr10, ho, hd8, hall⟩ := segRight_iff.mp hr
  have hR4 := hN.u32 (j := 4) (by decide) rfl
  have hR5 := hN.u32 (j := 5) (by decide) rfl
  have hR6 := flagsN_bd N
  have hn4 : (n : Int) ≤ 4 := by have := HNL.out; omega
  have hm8 : (m : Int) ≤ 8 := by have := HML.out; omega
  have HO := Lib.hid ho; have HD8 := Lib.hid hd8; have HALL := Lib.hid hall
  have HB6 : Hid (Bytes [N 0, N 1, N 2 / 256, N 2 % 256, N 3 / 256, N 3 % 256]) := Lib.hid (by intro x hx; simp at hx; rcases hx with rfl | rfl | rfl | rfl | rfl | rfl <;> omega)
  have HN := Lib.hid hN
  have HRR := Lib.hid (And.intro hr0 (And.intro hr1 (And.intro hr2 (And.intro hr3 hr10))))
  clear ho hd8 hall hr hN
  go_enter Tryd.func51, Tryd.ntmps51
  go_wp2_with fail
  have hR0 : Hid (SB w (w.heap.size + 1) w.heap.size #[.int .i64 (N 0), .int .i64 (N 1), .int .i64 (N 2), .int .i64 (N 3), .int .u32 (N 4), .int .u32 (N 5), .bool (decide (N 6 = 1)), .bool (decide (N 7 = 1)), .bool (decide (N 8 = 1)), .bool (decide (N 9 = 1)), .int .i64 (N 10), .slice A n c, .slice B m d] [N 0, N 1, N 2 / 256, N 2 % 256, N 3 / 256, N 3 % 256] (.slice (some ⟨w.heap.size + 1, 0, none⟩) 6 6) ((w.alloc (.cells #[.int .i64 (N 0), .int .i64 (N 1), .int .i64 (N 2), .int .i64 (N 3), .int .u32 (N 4), .int .u32 (N 5), .bool (decide (N 6 = 1)), .bool (decide (N 7 = 1)), .bool (decide (N 8 = 1)), .bool (decide (N 9 = 1)), .int .i64 (N 10), .slice A n c, .slice B m d] 26)).alloc (.cells #[.int .u8 (N 0), .int .u8 (N 1), .int .u8 (N 2 / 256), .int .u8 (N 2 % 256), .int .u8 (N 3 / 256), .int .u8 (N 3 % 256)] 5))) := Lib.hid ⟨((Fine.refl w).alloc _).alloc _, by omega, by omega, by simp, (Blk.new w 26 _).alloc _, OwnB.litAt [N 0, N 1, N 2 / 256, N 2 % 256, N 3 / 256, N 3 % 256] HB6.out (by simp) (by simp) (by simp)⟩
  generalize ((w.alloc (.cells #[.int .i64 (N 0), .int .i64 (N 1), .int .i64 (N 2), .int .i64 (N 3), .int .u32 (N 4), .int .u32 (N 5), .bool (decide (N 6 = 1)), .bool (decide (N 7 = 1)), .bool (decide (N 8 = 1)), .bool (decide (N 9 = 1)), .int .i64 (N 10), .slice A n c, .slice B m d] 26)).alloc (.cells #[.int .u8 (N 0), .int .u8 (N 1), .int .u8 (N 2 / 256), .int .u8 (N 2 % 256), .int .u8 (N 3 / 256), .int .u8 (N 3 % 256)] 5)) = w0 at hR0 ⊢
  obtain ⟨x1, hx1⟩ : ∃ x1, w.heap.size = x1 := ⟨_, rfl⟩
  obtain ⟨x3, hx3⟩ : ∃ x3, w.heap.size + 1 = x3 := ⟨_, rfl⟩
  rw [hx3, hx1] at hR0
  rw [hx3, hx1]
  have HX1 := Lib.hid hx1; have HX3 := Lib.hid hx3; clear hx1 hx3
  refine (bytesV (x := N 4) ⟨hR4.1, by omega⟩ 4 (Or.inl rfl) w0).mono ?_
  rintro x w1 ⟨A0, d0, rfl, b0, f0⟩
  have hQ0 := Lib.hid (hR0.out.fine f0)
  have G0 := Lib.hid b0; clear b0 hR0
  generalize hb4 : be 4 (N 4) = y4 at G0 ⊢
  have HB4 := Lib.hid hb4; clear hb4
  go_upto_region 3 with (at_builtin; refine wpList_appS2 rfl (.tmp 28) (.tmp 32) rfl x3 x1 #[.int .i64 (N 0), .int .i64 (N 1), .int .i64 (N 2), .int .i64 (N 3), .int .u32 (N 4), .int .u32 (N 5), .bool (decide (N 6 = 1)), .bool (decide (N 7 = 1)), .bool (decide (N 8 = 1)), .bool (decide (N 9 = 1)), .int .i64 (N 10), .slice A n c, .slice B m d] _ _ rfl hQ0 A0 _ d0 _ rfl rfl G0.out (Lib.hid (by rw [← HB4.out]; simp [be_length])) ?_; intro A1 n1 c1 w2 hR1)
  have e5 : w2.cell? ⟨x1, 5, none⟩ = some (.int .u32 (N 5)) := hR1.out.2.2.2.2.1.cell 5
  clear G0 hQ0
  go_wp2_with fail
  refine (bytesV (x := N 5) ⟨hR5.1, by omega⟩ 4 (Or.inl rfl) w2).mono ?_
  rintro x w3 ⟨A2, d2, rfl, b2, f2⟩
  have hQ2 := Lib.hid (hR1.out.fine f2)
  have G2 := Lib.hid b2; clear b2 hR1 e5
  generalize hb5 : be 4 (N 5) = y5 at G2 ⊢
  have HB5 := Lib.hid hb5; clear hb5
  go_upto_region 4 with (at_builtin; refine wpList_appS2 rfl (.tmp 34) (.tmp 38) rfl x3 x1 #[.int .i64 (N 0), .int .i64 (N 1), .int .i64 (N 2), .int .i64 (N 3), .int .u32 (N 4), .int .u32 (N 5), .bool (decide (N 6 = 1)), .bool (decide (N 7 = 1)), .bool (decide (N 8 = 1)), .bool (decide (N 9 = 1)), .int .i64 (N 10), .slice A n c, .slice B m d] _ _ rfl hQ2 A2 _ d2 _ rfl rfl G2.out (Lib.hid (by rw [← HB4.out, ← HB5.out]; simp [be_length])) ?_; intro A3 n3 c3 w4 hR3)
  clear G2 hQ2
  have e6 : w4.cell? ⟨x1, 6, none⟩ = some (.bool (decide (N 6 = 1))) := hR3.out.2.2.2.2.1.cell 6
  have e7 : w4.cell? ⟨x1, 7, none⟩ = some (.bool (decide (N 7 = 1))) := hR3.out.2.2.2.2.1.cell 7
  have e8 : w4.cell? ⟨x1, 8, none⟩ = some (.bool (decide (N 8 = 1))) := hR3.out.2.2.2.2.1.cell 8
  have e9 : w4.cell? ⟨x1, 9, none⟩ = some (.bool (decide (N 9 = 1))) := hR3.out.2.2.2.2.1.cell 9
  have e10 : w4.cell? ⟨x1, 10, none⟩ = some (.int .i64 (N 10)) := hR3.out.2.2.2.2.1.cell 10
  have e11 : w4.cell? ⟨x1, 11, none⟩ = some (.slice A n c) := hR3.out.2.2.2.2.1.cell 11
  have e12 : w4.cell? ⟨x1, 12, none⟩ = some (.slice B m d) := hR3.out.2.2.2.2.1.cell 12
  have h6 : N 6 = 0 ∨ N 6 = 1 := HN.out.is (by decide) rfl
  have h7 : N 7 = 0 ∨ N 7 = 1 := HN.out.is (by decide) rfl
  have h8 : N 8 = 0 ∨ N 8 = 1 := HN.out.is (by decide) rfl
  have h9 : N 9 = 0 ∨ N 9 = 1 := HN.out.is (by decide) rfl
  have H6 := Lib.hid h6; have H7 := Lib.hid h7; have H8 := Lib.hid h8; have H9 := Lib.hid h9
  have hfe := flagsN_eq N HN.out
  obtain ⟨q6, hq6⟩ : ∃ q, N 6 * 1 = q := ⟨_, rfl⟩
  obtain ⟨q7, hq7⟩ : ∃ q, N 7 * 2 = q := ⟨_, rfl⟩
  obtain ⟨q8, hq8⟩ : ∃ q, N 8 * 4 = q := ⟨_, rfl⟩
  obtain ⟨q9, hq9⟩ : ∃ q, N 9 * 8 = q := ⟨_, rfl⟩
  obtain ⟨s1, hs1⟩ : ∃ q, q6 + q7 = q := ⟨_, rfl⟩
  obtain ⟨s2, hs2⟩ : ∃ q, s1 + q8 = q := ⟨_, rfl⟩
  obtain ⟨s3, hs3⟩ : ∃ q, s2 + q9 = q := ⟨_, rfl⟩
  have hfl : s3 = flagsN N := by omega
  have u1 : IntKind.u8.wrap (q6 + q7) = s1 := by rw [IntKind.wrap_u8]; omega
  have u2 : IntKind.u8.wrap (s1 + q8) = s2 := by rw [IntKind.wrap_u8]; omega
  have u3 : IntKind.u8.wrap (s2 + q9) = s3 := by rw [IntKind.wrap_u8]; omega
  have HFL := Lib.hid hfl
  obtain ⟨a1, ha1⟩ : ∃ q, N 10 / 256 = q := ⟨_, rfl⟩
  obtain ⟨a2, ha2⟩ : ∃ q, N 10 % 256 = q := ⟨_, rfl⟩
  have t1 : (N 10).tdiv 256 = a1 := by rw [Int.tdiv_eq_ediv_of_nonneg hr10.1, ha1]
  have t2 : (N 10).tmod 256 = a2 := by rw [Int.tmod_eq_emod_of_nonneg hr10.1, ha2]
  have v1 : IntKind.i64.wrap a1 = a1 := IntWalk.i64_in _ (by omega)
  have v2 : IntKind.i64.wrap a2 = a2 := IntWalk.i64_in _ (by omega)
  have v3 : IntKind.u8.wrap a1 = a1 := by rw [IntKind.wrap_u8]; omega
  have v4 : IntKind.u8.wrap a2 = a2 := by rw [IntKind.wrap_u8]; omega
  have v5 : IntKind.u8.wrap (n : Int) = (n : Int) := by rw [IntKind.wrap_u8]; omega
  have v6 : IntKind.u8.wrap (m : Int) = (m : Int) := by rw [IntKind.wrap_u8]; omega
  have HQ6 := Lib.hid hq6; have HQ7 := Lib.hid hq7; have HQ8 := Lib.hid hq8; have HQ9 := Lib.hid hq9; have HA1 := Lib.hid ha1; have HA2 := Lib.hid ha2
  have HBD5 : Hid (Bytes [s3, a1, a2, (n : Int), (m : Int)]) := Lib.hid (by intro x hx; simp at hx; rcases hx with rfl | rfl | rfl | rfl | rfl <;> omega)
  have FA : ∀ o, Fine w4 (w4.alloc o).drew := fun o => ((Fine.refl w4).alloc o).drew
  have HK : Hid (∀ w', Fine w4 w' → w'.cell? ⟨x1, 6, none⟩ = some (.bool (decide (N 6 = 1))) ∧ w'.cell? ⟨x1, 7, none⟩ = some (.bool (decide (N 7 = 1))) ∧ w'.cell? ⟨x1, 8, none⟩ = some (.bool (decide (N 8 = 1))) ∧ w'.cell? ⟨x1, 9, none⟩ = some (.bool (decide (N 9 = 1))) ∧ w'.cell? ⟨x1, 10, none⟩ = some (.int .i64 (N 10)) ∧ w'.cell? ⟨x1, 11, none⟩ = some (.slice A n c) ∧ w'.cell? ⟨x1, 12, none⟩ = some (.slice B m d)) := Lib.hid (fun w' f => by
    have b := hR3.out.2.2.2.2.1.fine f
    exact ⟨b.cell 6, b.cell 7, b.cell 8, b.cell 9, b.cell 10, b.cell 11, b.cell 12⟩)
  have HKK : Hid (∀ w', Kept (fun k => x3 ≤ k) (w4.alloc (.cells #[.int .u8 s3, .int .u8 a1, .int .u8 a2, .int .u8 (n : Int), .int .u8 (m : Int)] 5)).drew w' → w'.cell? ⟨x1, 6, none⟩ = some (.bool (decide (N 6 = 1))) ∧ w'.cell? ⟨x1, 7, none⟩ = some (.bool (decide (N 7 = 1))) ∧ w'.cell? ⟨x1, 8, none⟩ = some (.bool (decide (N 8 = 1))) ∧ w'.cell? ⟨x1, 9, none⟩ = some (.bool (decide (N 9 = 1))) ∧ w'.cell? ⟨x1, 10, none⟩ = some (.int .i64 (N 10)) ∧ w'.cell? ⟨x1, 11, none⟩ = some (.slice A n c) ∧ w'.cell? ⟨x1, 12, none⟩ = some (.slice B m d)) := Lib.hid (fun w' f => by
    have b := (hR3.out.2.2.2.2.1.fine (FA _)).kept f (by have := hR3.out.2.2.1; omega)
    exact ⟨b.cell 6, b.cell 7, b.cell 8, b.cell 9, b.cell 10, b.cell 11, b.cell 12⟩)
  have hO4 : Hid (OwnB (w4.alloc (.cells #[.int .u8 s3, .int .u8 a1, .int .u8 a2, .int .u8 (n : Int), .int .u8 (m : Int)] 5)).drew x3 (.slice A3 n3 c3) ([N 0, N 1, N 2 / 256, N 2 % 256, N 3 / 256, N 3 % 256] ++ y4 ++ y5)) := Lib.hid (hR3.out.2.2.2.2.2.fine (FA _))
  have hB4 : Hid (BS (w4.alloc (.cells #[.int .u8 s3, .int .u8 a1, .int .u8 a2, .int .u8 (n : Int), .int .u8 (m : Int)] 5)).drew (some ⟨w4.heap.size, 0, none⟩) 5 [s3, a1, a2, (n : Int), (m : Int)]) := Lib.hid ((BS.lit w4 [s3, a1, a2, (n : Int), (m : Int)] HBD5.out (by simp)).fine (Fine.refl _).drew)
  have HL4 : Hid (y4.length = 4 ∧ y5.length = 4) := Lib.hid (by rw [← HB4.out, ← HB5.out]; exact ⟨be_length _ _, be_length _ _⟩)
  clear hq6 hq7 hq8 hq9 hs1 hs2 hs3 hfl hfe ha1 ha2 h6 h7 h8 h9 hr0 hr1 hr2 hr3 hr10 hR4 hR5 hR6
  go_region_held3 (fun w' => w'.cell? ⟨x1, 6, none⟩ = some (.bool (decide (N 6 = 1))) ∧ w'.cell? ⟨x1, 7, none⟩ = some (.bool (decide (N 7 = 1))) ∧ w'.cell? ⟨x1, 8, none⟩ = some (.bool (decide (N 8 = 1))) ∧ w'.cell? ⟨x1, 9, none⟩ = some (.bool (decide (N 9 = 1))) ∧ w'.cell? ⟨x1, 10, none⟩ = some (.int .i64 (N 10)) ∧ w'.cell? ⟨x1, 11, none⟩ = some (.slice A n c) ∧ w'.cell? ⟨x1, 12, none⟩ = some (.slice B m d)) (first | (with_reducible exact ⟨e6, e7, e8, e9, e10, e11, e12⟩) | (exact HK.out _ (Fine.refl w4).drew) | (exact HK.out _ (FA _)) | (refine HKK.out _ ?_; assumption)) (first | (go_at_call 68; refine (flag_n H6.out 1 _).mono ?_; rintro x wA ⟨rfl, rfl⟩; rw [HQ6.out]) | (go_at_call 68; refine (flag_n H7.out 2 _).mono ?_; rintro x wA ⟨rfl, rfl⟩; rw [HQ7.out]) | (go_at_call 68; refine (flag_n H8.out 4 _).mono ?_; rintro x wA ⟨rfl, rfl⟩; rw [HQ8.out]) | (go_at_call 68; refine (flag_n H9.out 8 _).mono ?_; rintro x wA ⟨rfl, rfl⟩; rw [HQ9.out]) | (refine step_appB rfl (.tmp 40) (.tmp 72) rfl x3 _ _ rfl hO4.out (some ⟨w4.heap.size, 0, none⟩) _ _ [s3, a1, a2, (n : Int), (m : Int)] rfl rfl hB4.out (by have := HL4.out; simp; omega) (by have := hR3.out.2.2.2.1; simp; omega) ?_; intro z5 w5 o5 k5 g5 q5; have O5 := Lib.hid o5; clear o5 g5 q5))
  have hR5 : Hid (SB w x3 x1 #[.int .i64 (N 0), .int .i64 (N 1), .int .i64 (N 2), .int .i64 (N 3), .int .u32 (N 4), .int .u32 (N 5), .bool (decide (N 6 = 1)), .bool (decide (N 7 = 1)), .bool (decide (N 8 = 1)), .bool (decide (N 9 = 1)), .int .i64 (N 10), .slice A n c, .slice B m d] ([N 0, N 1, N 2 / 256, N 2 % 256, N 3 / 256, N 3 % 256] ++ y4 ++ y5 ++ [s3, a1, a2, (n : Int), (m : Int)]) z5 w5) := Lib.hid ((hR3.out.fine (FA _)).app O5.out k5)
  have HHD : Hid ([N 0, N 1, N 2 / 256, N 2 % 256, N 3 / 256, N 3 % 256] ++ y4 ++ y5 ++ [s3, a1, a2, (n : Int), (m : Int)] = headB N n m) := Lib.hid (by rw [← HB4.out, ← HB5.out, ← HA1.out, ← HA2.out, HFL.out]; exact head_eq N n m HRR.out.1 HRR.out.2.1 HRR.out.2.2.1 HRR.out.2.2.2.1 HRR.out.2.2.2.2 (by omega) (by omega))
  rw [HHD.out] at hR5
  obtain ⟨hd, hhd⟩ : ∃ hd, headB N n m = hd := ⟨_, rfl⟩
  have hHL := headB_len N n m
  rw [hhd] at hR5 hHL
  have HHL := Lib.hid hHL; have HHE := Lib.hid hhd
  clear hhd hHL HHD
  obtain ⟨A5, c5, e5, _, _⟩ := hR5.out.2.2.2.2.2.form
  subst e5
  obtain ⟨L5, hL5⟩ : ∃ L, hd.length = L := ⟨_, rfl⟩
  rw [hL5] at hR5 ⊢
  clear e6 e7 e8 e9 e10 e11 e12 HK HKK hO4 hB4 u1 u2 u3 t1 t2 v1 v2 v3 v4 v5 v6 O5 HB6 HBD5 HL4 H6 H7 H8 H9 HQ6 HQ7 HQ8 HQ9 HFL HA1 HA2 hR3 FA HB4 HB5 k5 f0 f2
  have HL5 := Lib.hid hL5; clear hL5
  go_wp2_with fail
  go_loopw [3, 4] (fun s3 s4 wr => ∃ i : Nat, i ≤ n ∧ s4 = .int .i64 i ∧ ∃ A' n' c', s3 = .slice A' n' c' ∧ Hid (SB w x3 x1 #[.int .i64 (N 0), .int .i64 (N 1), .int .i64 (N 2), .int .i64 (N 3), .int .u32 (N 4), .int .u32 (N 5), .bool (decide (N 6 = 1)), .bool (decide (N 7 = 1)), .bool (decide (N 8 = 1)), .bool (decide (N 9 = 1)), .int .i64 (N 10), .slice A n c, .slice B m d] (hd ++ (l.take i).flatMap optB) (.slice A' n' c') wr)) (fun _ s4 _ => n - (intOf s4).toNat)
  case atStart => exact ⟨0, Nat.zero_le _, rfl, A5, _, c5, rfl, Lib.hid (by simpa using hR5.out)⟩
  case round =>
    obtain ⟨i, hi, rfl, A', n', c', rfl, HR⟩ := hrel
    have e11 : wr.cell? ⟨x1, 11, none⟩ = some (.slice A n c) := HR.out.2.2.2.2.1.cell 11
    by_cases hlt : i < n
    · obtain ⟨V, hV0⟩ : ∃ V, l[i]? = some V := ⟨_, List.getElem?_eq_getElem (by have := HNL.out; omega)⟩
      obtain ⟨b, o, rfl, hb, hc⟩ := (H1.out.fine HR.out.1).at_ hV0
      have c0 := hc 0 (.int .i64 (V 0)) rfl
      have c1 := hc 1 (.int .u64 (V 1)) rfl
      have c2 := hc 2 (.int .u64 (V 2)) rfl
      have c3 := hc 3 (.int .u32 (V 3)) rfl
      have c4 := hc 4 (.int .u32 (V 4)) rfl
      have c5 := hc 5 (.int .i64 (V 5)) rfl
      have c6 := hc 6 (.int .i64 (V 6)) rfl
      have c7 := hc 7 (.bool (decide (V 7 = 1))) rfl
      have c8 := hc 8 (.bool (decide (V 8 = 1))) rfl
      have c9 := hc 9 (.int .i64 (V 9)) rfl
      have c10 := hc 10 (.bool (decide (V 10 = 1))) rfl
      have c11 := hc 11 (.int .i64 (V 11)) rfl
      have c12 := hc 12 (.int .i64 (V 12)) rfl
      have c13 := hc 13 (.bool (decide (V 13 = 1))) rfl
      simp only [← Nat.add_assoc, Nat.add_zero] at c0 c1 c2 c3 c4 c5 c6 c7 c8 c9 c10 c11 c12 c13
      have HV0 := Lib.hid hV0
      clear hc hV0
      have hin : (i : Int) < (n : Int) := by omega
      go_wp2_with fail
      refine (refBytes_any V (HV.out V (List.mem_of_getElem? HV0.out)) wr).mono ?_
      rintro x wD ⟨vD, rfl, oD, fD⟩
      obtain ⟨AD, cD, rfl, bD, _⟩ := oD.form
      have HQ := Lib.hid (HR.out.fine fD)
      have HBD := Lib.hid bD
      have HLN : Hid ((hd ++ (l.take i).flatMap optB).length + (optB V).length ≤ 100000) := Lib.hid (by
        have h1 := optB_len V
        have h2 := flatMap_len optB 49 (l.take i) (fun x _ => optB_len x)
        have h3 : (l.take i).length ≤ 4 := by rw [List.length_take]; have := HO.out; omega
        have := HHL.out
        rw [List.length_append]
        omega)
      clear oD bD e11 c0 c1 c2 c3 c4 c5 c6 c7 c8 c9 c10 c11 c12 c13
      go_wp2_with (at_builtin; refine wpList_appS2 rfl (.tmp 81) (.tmp 87) rfl x3 x1 #[.int .i64 (N 0), .int .i64 (N 1), .int .i64 (N 2), .int .i64 (N 3), .int .u32 (N 4), .int .u32 (N 5), .bool (decide (N 6 = 1)), .bool (decide (N 7 = 1)), .bool (decide (N 8 = 1)), .bool (decide (N 9 = 1)), .int .i64 (N 10), .slice (some ⟨b, o, none⟩) n c, .slice B m d] _ _ rfl HQ AD _ cD _ rfl rfl HBD.out HLN ?_; intro A6 n6 c6 w6 hR6)
      have HN6 : Hid (SB w x3 x1 #[.int .i64 (N 0), .int .i64 (N 1), .int .i64 (N 2), .int .i64 (N 3), .int .u32 (N 4), .int .u32 (N 5), .bool (decide (N 6 = 1)), .bool (decide (N 7 = 1)), .bool (decide (N 8 = 1)), .bool (decide (N 9 = 1)), .int .i64 (N 10), .slice (some ⟨b, o, none⟩) n c, .slice B m d] (hd ++ (l.take (i + 1)).flatMap optB) (.slice A6 n6 c6) w6) := Lib.hid (by
        rw [List.take_add_one, HV0.out, List.flatMap_append, ← List.append_assoc]
        simpa using hR6.out)
      exact ⟨⟨i + 1, hlt, by simp, A6, n6, c6, rfl, HN6⟩, by simp only [intOf]; omega⟩
    · have hie : n = i := by omega
      subst hie
      have e12 : wr.cell? ⟨x1, 12, none⟩ = some (.slice B m d) := HR.out.2.2.2.2.1.cell 12
      have HBD := Lib.hid (H2.out.fine HR.out.1)
      have HT : Hid (l.take n = l) := Lib.hid (by rw [HNL.out]; exact List.take_length)
      rw [HT.out] at HR
      have HLN : Hid ((hd ++ l.flatMap optB).length + xs.length ≤ 100000) := Lib.hid (by
        have h2 := flatOpt_len l HALL.out HO.out
        have := HHL.out
        have := HD8.out
        rw [List.length_append]
        omega)
      go_wp2_with (at_builtin; refine wpList_appS2 rfl (.tmp 89) (.tmp 91) rfl x3 x1 #[.int .i64 (N 0), .int .i64 (N 1), .int .i64 (N 2), .int .i64 (N 3), .int .u32 (N 4), .int .u32 (N 5), .bool (decide (N 6 = 1)), .bool (decide (N 7 = 1)), .bool (decide (N 8 = 1)), .bool (decide (N 9 = 1)), .int .i64 (N 10), .slice A n c, .slice B m d] _ _ rfl HR B _ d _ rfl HML.out HBD.out HLN ?_; intro A6 n6 c6 w6 hR6)
      go_ret
      refine ⟨_, rfl, ?_, hR6.out.1⟩
      have h1 := hR6.out.2.2.2.2.2
      rw [← HHE.out, List.append_assoc, HNL.out, HML.out] at h1
      exact h1.lower (by have := HX3.out; omega)
set_option maxHeartbeats 2000000 in
set_option maxRecDepth 100000 in
theorem rbytes_any (N : Nat → Int) (A B : Option Addr) (n m c d : Nat) (l : List (Nat → Int)) (xs : List Int) (hn : n = l.length) (hm : m = xs.length) (hN : OkN N) (hr : segRightB N l xs = true) (hV : ∀ V ∈ l, OkV V) (w : World) (h1 : RS layO w A c l) (h2 : BS w B d xs) :
    Calls Tryd.prog 23 #[.agg #[.int .i64 (N 0), .int .i64 (N 1), .int .i64 (N 2), .int .i64 (N 3), .int .u32 (N 4), .int .u32 (N 5), .bool (decide (N 6 = 1)), .bool (decide (N 7 = 1)), .bool (decide (N 8 = 1)), .bool (decide (N 9 = 1)), .int .i64 (N 10), .slice A n c, .slice B m d]] w fun r w' => ∃ v, r = .returned v ∧ OwnB w' w.heap.size v (putOf (segB N l xs)) ∧ Fine w w' := by
  have HH := Lib.hid (fun w' (f : Fine w w') => head_any N A B n m c d l xs hn hm hN hr hV w' (h1.fine f) (h2.fine f))
  have hlen : (segB N l xs).length ≤ 1000 := by
    obtain ⟨_, _, _, _, _, ho, hd8, hall⟩ := segRight_iff.mp hr
    have e : (segB N l xs).length = 19 + ((l.flatMap optB).length + xs.length) := segB_len
    have := flatOpt_len l hall ho
    omega
  clear hn hm hN hr hV h1 h2
  generalize segB N l xs = sg at HH hlen ⊢
  have HL := Lib.hid hlen; clear hlen
  go_enter Tryd.func23, Tryd.ntmps23
  go_wp2_with fail
  have f1 : Fine w (w.alloc (.cells #[.int .i64 (N 0), .int .i64 (N 1), .int .i64 (N 2), .int .i64 (N 3), .int .u32 (N 4), .int .u32 (N 5), .bool (decide (N 6 = 1)), .bool (decide (N 7 = 1)), .bool (decide (N 8 = 1)), .bool (decide (N 9 = 1)), .int .i64 (N 10), .slice A n c, .slice B m d] 26)) := (Fine.refl w).alloc _
  generalize (w.alloc (.cells #[.int .i64 (N 0), .int .i64 (N 1), .int .i64 (N 2), .int .i64 (N 3), .int .u32 (N 4), .int .u32 (N 5), .bool (decide (N 6 = 1)), .bool (decide (N 7 = 1)), .bool (decide (N 8 = 1)), .bool (decide (N 9 = 1)), .int .i64 (N 10), .slice A n c, .slice B m d] 26)) = w1 at f1 ⊢
  refine (HH.out w1 f1).mono ?_
  rintro x w2 ⟨v, rfl, o2, f2⟩
  have f02 := f1.trans f2
  obtain ⟨A2, c2, rfl, b2, _⟩ := o2.form
  have HB := Lib.hid b2
  clear o2 b2 f1 f2
  go_wp2_with fail
  refine (rput_any A2 sg.length c2 sg w2 HB.out rfl (by have := HL.out; omega)).mono ?_
  rintro x w3 ⟨v, rfl, o3, f3⟩
  have f03 := f02.trans f3
  have o3 := o3.lower f02.size
  go_wp2_with fail
  go_ret
  exact ⟨_, rfl, o3, f03⟩
end Go.Proofs.YthnennleblgjeaaDoor
