/- The laws PathNil, PathTwice walked. -/
import Derived.Test.YtbgdcpecpcmjdaaPath5
namespace Go.Proofs.Ytbgdcpecpcmjdaa
open Go.ChangeShapes Go.WideShapes Go.ChangeAt Go.RowKit
set_option linter.unusedVariables false

def freshL (n k : Nat) : List Bool := (List.range 24).map fun i => decide (i = n ∨ i = 4 + k ∨ i = 8 + n * 4 + k)
theorem fresh_eq {L : List Bool} {n k : Nat} (hl : L.length = 24) (h : Fresh L n k) : L = freshL n k := by
  apply List.ext_getElem
  · simp [freshL, hl]
  · intro i h1 h2
    have := h i (by omega)
    simp [List.getD, h1] at this
    simp [freshL, this]
theorem new_is (n k : Nat) (hn : n < 4) (hk : k < 4) (m : Int) (w : World) :
    Calls Try.prog 8 #[.int .i64 n, .int .i64 k, .int .i64 m] w fun e w' => ∃ g, e = .returned (.tuple #[.pointer (some ⟨g, 0, none⟩), .int .i64 0]) ∧ PMB w' g (freshL n k) (clampM m) ∧ w.heap.size ≤ g ∧ Fine w w' :=
  (new_any n k hn hk m w).mono fun e w' ⟨g, L, he, hp, hf, hg, f⟩ => ⟨g, he, by rw [← fresh_eq hp.len hf]; exact hp, hg, f⟩

theorem wakes_next : nextOf (toldL (freshL 0 0) 1) 2 = some (0, 1) := by decide +kernel
theorem wakes_any (w : World) : Calls Try.prog 7 #[] w fun e w' => e = .returned (.bool true) ∧ Fine w w' := by
  go_enter Try.func7, Try.ntmps7
  go_wp2_with fail
  refine (show Calls Try.prog 8 #[.int .i64 0, .int .i64 0, .int .i64 2] w _ from new_is 0 0 (by omega) (by omega) 2 w).mono ?_; rintro e w1 ⟨g, rfl, hp, hg, f1⟩
  have hp : PMB w1 g (freshL 0 0) 2 := hp
  have HP := Lib.hid hp; clear hp
  go_wp2_with fail
  refine (told_any g _ 2 1 _ HP.out).mono ?_; rintro e w2 ⟨rfl, hp2, k2⟩
  have HP2 := Lib.hid hp2; clear hp2
  have f2 : Fine w w2 := f1.kept k2 (by intro x hx; omega)
  go_wp2_with fail
  refine (next_any g _ 2 _ HP2.out).mono ?_; rintro e w3 ⟨rfl, f3⟩
  rw [wakes_next]
  unfold nextV
  go_wp2_with fail
  go_ret
  exact ⟨rfl, (by repeat (first | exact Fine.refl _ | assumption | refine Fine.alloc ?_ _ | refine Fine.drew ?_ | refine Fine.drewN ?_ _ | refine Fine.trans ?_ (by assumption) | (refine Fine.kept ?_ (by assumption) (by intro x hx; first | omega | (simp; omega))) | (refine Fine.setCell ?_ (by first | assumption | (simp; done) | (simp; omega)) _)))⟩

theorem lawPathNil (w : World) (a : Int) (wa : (Lit.int .i64 a).wf = true) (b : Int) (wb : (Lit.int .i64 b).wf = true) : Calls Try.prog 6 #[.int .i64 a, .int .i64 b] w fun e w' => e = .returned (.bool true) ∧ Below w.heap.size w w' := by
  show Calls _ _ _ _ fun e w' => e = .returned (.bool true) ∧ Fine w w'
  clear wa wb
  go_enter Try.func6, Try.ntmps6
  go_wp2_with fail
  refine (wakes_any _).mono ?_; rintro e w1 ⟨rfl, f1⟩
  go_wp2_with fail
  refine (told_nil _ _).mono ?_; rintro e w2 ⟨rfl, rfl⟩
  go_wp2_with fail
  refine (next_nil _).mono ?_; rintro e w2 ⟨rfl, f2⟩
  unfold nextV
  go_wp2_with fail
  refine (tell_nil _ _).mono ?_; rintro e w3 ⟨rfl, rfl⟩
  go_wp2_with fail
  refine (untell_nil _ _).mono ?_; rintro e w3 ⟨rfl, rfl⟩
  go_wp2_with fail
  refine (untold_nil _ _).mono ?_; rintro e w3 ⟨rfl, rfl⟩
  go_wp2_with fail
  refine (join_nil _ _ _).mono ?_; rintro e w3 ⟨rfl, rfl⟩
  go_wp2_with fail
  refine (gone_nil _ _ _).mono ?_; rintro e w3 ⟨rfl, rfl⟩
  go_wp2_with fail
  refine (own_nil _).mono ?_; rintro e w3 ⟨rfl, rfl⟩
  go_wp2_with fail
  refine (other_nil _).mono ?_; rintro e w3 ⟨rfl, rfl⟩
  go_wp2_with fail
  refine (pairs_nil _).mono ?_; rintro e w3 ⟨rfl, rfl⟩
  go_wp2_with fail
  go_ret
  exact ⟨rfl, (by repeat (first | exact Fine.refl _ | assumption | refine Fine.alloc ?_ _ | refine Fine.drew ?_ | refine Fine.drewN ?_ _ | refine Fine.trans ?_ (by assumption) | (refine Fine.kept ?_ (by assumption) (by intro x hx; first | omega | (simp; omega))) | (refine Fine.setCell ?_ (by first | assumption | (simp; done) | (simp; omega)) _)))⟩

def TwiceOk (x y : Int) : Prop :=
  joinC (freshL 0 0) 8 x y = (if x = 0 ∧ y = 0 then 8 else 6) ∧ joinL (freshL 0 0) 8 x y = freshL 0 0 ∧
  joinC (toldL (tellL (freshL 0 0) x) y) 8 x y = (if x = 0 ∧ y = 0 then 8 else 0) ∧
  joinC (joinL (toldL (tellL (freshL 0 0) x) y) 8 x y) 8 x y = 8 ∧ joinL (joinL (toldL (tellL (freshL 0 0) x) y) 8 x y) 8 x y = joinL (toldL (tellL (freshL 0 0) x) y) 8 x y ∧
  goneB (joinL (toldL (tellL (freshL 0 0) x) y) 8 x y) x y = true ∧ goneB (goneL (joinL (toldL (tellL (freshL 0 0) x) y) 8 x y) x y) x y = false ∧
  goneL (goneL (joinL (toldL (tellL (freshL 0 0) x) y) 8 x y) x y) x y = goneL (joinL (toldL (tellL (freshL 0 0) x) y) 8 x y) x y ∧
  joinC (goneL (joinL (toldL (tellL (freshL 0 0) x) y) 8 x y) x y) 8 x y = 0
instance (x y : Int) : Decidable (TwiceOk x y) := by unfold TwiceOk; infer_instance
theorem twice_ok0 : ∀ n : Nat, n < 4 → ∀ k : Nat, k < 4 → TwiceOk n k := by decide +kernel
theorem twice_ok (x y : Int) (hx0 : 0 ≤ x) (hx : x < 4) (hy0 : 0 ≤ y) (hy : y < 4) : TwiceOk x y := by
  have := twice_ok0 x.toNat (by omega) y.toNat (by omega)
  rwa [Int.toNat_of_nonneg hx0, Int.toNat_of_nonneg hy0] at this

set_option maxHeartbeats 1000000 in
theorem lawPathTwice (w : World) (a : Int) (wa : (Lit.int .u8 a).wf = true) (b : Int) (wb : (Lit.int .u8 b).wf = true) : Calls Try.prog 4 #[.int .u8 a, .int .u8 b] w fun e w' => e = .returned (.bool true) ∧ Below w.heap.size w w' := by
  show Calls _ _ _ _ fun e w' => e = .returned (.bool true) ∧ Fine w w'
  obtain ⟨ha0, ha1⟩ := Go.bounds_u8 wa
  obtain ⟨hb0, hb1⟩ := Go.bounds_u8 wb
  clear wa wb
  obtain ⟨x, hx⟩ : ∃ x, a % 4 = x := ⟨_, rfl⟩
  obtain ⟨y, hy⟩ : ∃ y, b % 4 = y := ⟨_, rfl⟩
  have hx0 : 0 ≤ x ∧ x < 4 := by omega
  have hy0 : 0 ≤ y ∧ y < 4 := by omega
  obtain ⟨t1, t2, t3, t4, t5, t6, t7, t8, t9⟩ := twice_ok x y hx0.1 hx0.2 hy0.1 hy0.2
  obtain ⟨L0, hL0⟩ : ∃ L, freshL 0 0 = L := ⟨_, rfl⟩
  rw [hL0] at t1 t2 t3 t4 t5 t6 t7 t8 t9
  obtain ⟨L2, hL2⟩ : ∃ L, tellL L0 x = L := ⟨_, rfl⟩
  rw [hL2] at t3 t4 t5 t6 t7 t8 t9
  obtain ⟨L3, hL3⟩ : ∃ L, toldL L2 y = L := ⟨_, rfl⟩
  rw [hL3] at t3 t4 t5 t6 t7 t8 t9
  obtain ⟨L4, hL4⟩ : ∃ L, joinL L3 8 x y = L := ⟨_, rfl⟩
  rw [hL4] at t4 t5 t6 t7 t8 t9
  obtain ⟨L5, hL5⟩ : ∃ L, goneL L4 x y = L := ⟨_, rfl⟩
  rw [hL5] at t7 t8 t9
  have hc : (x = 0 ∧ y = 0 ∧ joinC L0 8 x y = 8 ∧ joinC L3 8 x y = 8) ∨ (x = 0 ∧ 0 < y ∧ joinC L0 8 x y = 6 ∧ joinC L3 8 x y = 0) ∨ (0 < x ∧ joinC L0 8 x y = 6 ∧ joinC L3 8 x y = 0) := by
    by_cases e : x = 0
    · by_cases e2 : y = 0
      · exact .inl ⟨e, e2, by rw [t1, if_pos ⟨e, e2⟩], by rw [t3, if_pos ⟨e, e2⟩]⟩
      · exact .inr (.inl ⟨e, by omega, by rw [t1, if_neg (fun h => e2 h.2)], by rw [t3, if_neg (fun h => e2 h.2)]⟩)
    · exact .inr (.inr ⟨by omega, by rw [t1, if_neg (fun h => e h.1)], by rw [t3, if_neg (fun h => e h.1)]⟩)
  have T2 := Lib.hid t2; have T4 := Lib.hid t4; have T5 := Lib.hid t5; have T6 := Lib.hid t6; have T7 := Lib.hid t7; have T8 := Lib.hid t8; have T9 := Lib.hid t9
  have H0 := Lib.hid hL0; have H2 := Lib.hid hL2; have H3 := Lib.hid hL3; have H4 := Lib.hid hL4; have H5 := Lib.hid hL5
  clear t1 t2 t3 t4 t5 t6 t7 t8 t9 hL0 hL2 hL3 hL4 hL5
  have HA := Lib.hid hx; have HB := Lib.hid hy
  clear hx hy
  have HCC := Lib.hid hc; clear hc
  go_enter Try.func4, Try.ntmps4
  go_wp2_with fail
  refine (wakes_any _).mono ?_; rintro e w1 ⟨rfl, f1⟩
  go_wp2_with fail
  refine (show Calls Try.prog 8 #[.int .i64 0, .int .i64 0, .int .i64 8] w1 _ from new_is 0 0 (by omega) (by omega) 8 w1).mono ?_; rintro e w2 ⟨g, rfl, hp0, hg, f2⟩
  rw [H0.out] at hp0
  have P0 : Hid (PMB w2 g L0 8) := hp0
  clear hp0
  have hgw : w.heap.size ≤ g := Nat.le_trans f1.size hg
  have fw2 : Fine w w2 := f1.trans f2
  go_wp2_with fail
  simp only [HA.out, HB.out]
  refine (join_any g L0 8 x y _ P0.out).mono ?_; rintro e w3 ⟨rfl, p3, k3⟩
  rw [T2.out] at p3
  have P3 := Lib.hid p3; clear p3
  have f3 : Fine w w3 := fw2.kept k3 (by intro z hz; omega)
  have hc := HCC.out
  clear HCC
  rcases hc with ⟨rfl, rfl, j1, j2⟩ | ⟨rfl, hk0, j1, j2⟩ | ⟨hn0, j1, j2⟩
  · rw [j1]
    have J2 := Lib.hid j2; clear j1 j2
    go_wp2_with fail
    refine (tell_any g L0 8 _ _ P3.out).mono ?_; rintro e w4 ⟨rfl, p4, k4⟩
    rw [H2.out] at p4
    have P4 := Lib.hid p4; clear p4
    have f4 : Fine w w4 := f3.kept k4 (by intro z hz; omega)
    go_wp2_with fail
    refine (told_any g L2 8 _ _ P4.out).mono ?_; rintro e w5 ⟨rfl, p5, k5⟩
    rw [H3.out] at p5
    have P5 := Lib.hid p5; clear p5
    have f5 : Fine w w5 := f4.kept k5 (by intro z hz; omega)
    go_wp2_with fail
    refine (join_any g L3 8 _ _ _ P5.out).mono ?_; rintro e w6 ⟨rfl, p6, k6⟩
    rw [J2.out]
    rw [H4.out] at p6
    have P6 := Lib.hid p6; clear p6
    have f6 : Fine w w6 := f5.kept k6 (by intro z hz; omega)
    go_wp2_with fail
    refine (join_any g L4 8 _ _ _ P6.out).mono ?_; rintro e w7 ⟨rfl, p7, k7⟩
    rw [T4.out]
    rw [T5.out] at p7
    have P7 := Lib.hid p7; clear p7
    have f7 : Fine w w7 := f6.kept k7 (by intro z hz; omega)
    go_wp2_with fail
    refine (gone_any g L4 8 _ _ _ P7.out).mono ?_; rintro e w8 ⟨rfl, p8, k8⟩
    rw [T6.out]
    rw [H5.out] at p8
    have P8 := Lib.hid p8; clear p8
    have f8 : Fine w w8 := f7.kept k8 (by intro z hz; omega)
    go_wp2_with fail
    refine (gone_any g L5 8 _ _ _ P8.out).mono ?_; rintro e w9 ⟨rfl, p9, k9⟩
    rw [T7.out]
    rw [T8.out] at p9
    have P9 := Lib.hid p9; clear p9
    have f9 : Fine w w9 := f8.kept k9 (by intro z hz; omega)
    go_wp2_with fail
    refine (join_any g L5 8 _ _ _ P9.out).mono ?_; rintro e w10 ⟨rfl, p10, k10⟩
    rw [T9.out]
    clear p10
    have f10 : Fine w w10 := f9.kept k10 (by intro z hz; omega)
    go_wp2_with fail
    go_ret
    exact ⟨rfl, f10⟩
  · rw [j1]
    have J2 := Lib.hid j2; clear j1 j2
    have q1 : (y == 0) = false := by rw [beq_eq_false_iff_ne]; omega
    go_wp2_with fail
    refine (tell_any g L0 8 _ _ P3.out).mono ?_; rintro e w4 ⟨rfl, p4, k4⟩
    rw [H2.out] at p4
    have P4 := Lib.hid p4; clear p4
    have f4 : Fine w w4 := f3.kept k4 (by intro z hz; omega)
    go_wp2_with fail
    refine (told_any g L2 8 _ _ P4.out).mono ?_; rintro e w5 ⟨rfl, p5, k5⟩
    rw [H3.out] at p5
    have P5 := Lib.hid p5; clear p5
    have f5 : Fine w w5 := f4.kept k5 (by intro z hz; omega)
    go_wp2_with fail
    refine (join_any g L3 8 _ _ _ P5.out).mono ?_; rintro e w6 ⟨rfl, p6, k6⟩
    rw [J2.out]
    rw [H4.out] at p6
    have P6 := Lib.hid p6; clear p6
    have f6 : Fine w w6 := f5.kept k6 (by intro z hz; omega)
    go_wp2_with fail
    refine (join_any g L4 8 _ _ _ P6.out).mono ?_; rintro e w7 ⟨rfl, p7, k7⟩
    rw [T4.out]
    rw [T5.out] at p7
    have P7 := Lib.hid p7; clear p7
    have f7 : Fine w w7 := f6.kept k7 (by intro z hz; omega)
    go_wp2_with fail
    refine (gone_any g L4 8 _ _ _ P7.out).mono ?_; rintro e w8 ⟨rfl, p8, k8⟩
    rw [T6.out]
    rw [H5.out] at p8
    have P8 := Lib.hid p8; clear p8
    have f8 : Fine w w8 := f7.kept k8 (by intro z hz; omega)
    go_wp2_with fail
    refine (gone_any g L5 8 _ _ _ P8.out).mono ?_; rintro e w9 ⟨rfl, p9, k9⟩
    rw [T7.out]
    rw [T8.out] at p9
    have P9 := Lib.hid p9; clear p9
    have f9 : Fine w w9 := f8.kept k9 (by intro z hz; omega)
    go_wp2_with fail
    refine (join_any g L5 8 _ _ _ P9.out).mono ?_; rintro e w10 ⟨rfl, p10, k10⟩
    rw [T9.out]
    clear p10
    have f10 : Fine w w10 := f9.kept k10 (by intro z hz; omega)
    go_wp2_with fail
    go_ret
    exact ⟨rfl, f10⟩
  · rw [j1]
    have J2 := Lib.hid j2; clear j1 j2
    have q1 : (x == 0) = false := by rw [beq_eq_false_iff_ne]; omega
    go_wp2_with fail
    refine (tell_any g L0 8 _ _ P3.out).mono ?_; rintro e w4 ⟨rfl, p4, k4⟩
    rw [H2.out] at p4
    have P4 := Lib.hid p4; clear p4
    have f4 : Fine w w4 := f3.kept k4 (by intro z hz; omega)
    go_wp2_with fail
    refine (told_any g L2 8 _ _ P4.out).mono ?_; rintro e w5 ⟨rfl, p5, k5⟩
    rw [H3.out] at p5
    have P5 := Lib.hid p5; clear p5
    have f5 : Fine w w5 := f4.kept k5 (by intro z hz; omega)
    go_wp2_with fail
    refine (join_any g L3 8 _ _ _ P5.out).mono ?_; rintro e w6 ⟨rfl, p6, k6⟩
    rw [J2.out]
    rw [H4.out] at p6
    have P6 := Lib.hid p6; clear p6
    have f6 : Fine w w6 := f5.kept k6 (by intro z hz; omega)
    go_wp2_with fail
    refine (join_any g L4 8 _ _ _ P6.out).mono ?_; rintro e w7 ⟨rfl, p7, k7⟩
    rw [T4.out]
    rw [T5.out] at p7
    have P7 := Lib.hid p7; clear p7
    have f7 : Fine w w7 := f6.kept k7 (by intro z hz; omega)
    go_wp2_with fail
    refine (gone_any g L4 8 _ _ _ P7.out).mono ?_; rintro e w8 ⟨rfl, p8, k8⟩
    rw [T6.out]
    rw [H5.out] at p8
    have P8 := Lib.hid p8; clear p8
    have f8 : Fine w w8 := f7.kept k8 (by intro z hz; omega)
    go_wp2_with fail
    refine (gone_any g L5 8 _ _ _ P8.out).mono ?_; rintro e w9 ⟨rfl, p9, k9⟩
    rw [T7.out]
    rw [T8.out] at p9
    have P9 := Lib.hid p9; clear p9
    have f9 : Fine w w9 := f8.kept k9 (by intro z hz; omega)
    go_wp2_with fail
    refine (join_any g L5 8 _ _ _ P9.out).mono ?_; rintro e w10 ⟨rfl, p10, k10⟩
    rw [T9.out]
    clear p10
    have f10 : Fine w w10 := f9.kept k10 (by intro z hz; omega)
    go_wp2_with fail
    go_ret
    exact ⟨rfl, f10⟩
end Go.Proofs.Ytbgdcpecpcmjdaa
