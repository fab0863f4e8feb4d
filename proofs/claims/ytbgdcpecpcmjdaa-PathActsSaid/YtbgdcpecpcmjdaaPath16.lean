/- The law PathActs walked. -/
import Derived.Test.YtbgdcpecpcmjdaaPath15
import Derived.Deep.DeepCutAuto
import Derived.Deep.LoopGhost
import Derived.Deep.CutBlock
namespace Go.Proofs.Ytbgdcpecpcmjdaa
open Go.ChangeShapes Go.WideShapes Go.ChangeAt Go.RowKit
set_option linter.unusedVariables false

theorem next_both (r : Option (Int × Int)) : ∃ x y is, nextV r = .tuple #[.agg #[.int .i64 x, .int .i64 y], .bool is] ∧ foundV r = .agg #[.int .i64 x, .int .i64 y, .bool is] := by
  cases r with
  | none => exact ⟨0, 0, false, rfl, rfl⟩
  | some p => exact ⟨p.1, p.2, true, rfl, rfl⟩
theorem untoldP_le (L : List Bool) (b : Int) : (untoldP L b).length ≤ 16 := by unfold untoldP; split; have := withB_le L b.toNat 4; omega; simp
theorem untoldP_sorted (L : List Bool) (b : Int) : (untoldP L b).Pairwise lexLt := by unfold untoldP; split; exact withB_sorted _ _ _; exact List.Pairwise.nil
def TailC (w : World) (b11 b13 g2 : Nat) (nx ny : Int) (nis : Bool) (v0 v1 v2 : Value) : Prop :=
  w.cell? ⟨b11, 0, none⟩ = some (.int .i64 nx) ∧ w.cell? ⟨b11, 1, none⟩ = some (.int .i64 ny) ∧ w.cell? ⟨b13, 0, none⟩ = some (.int .i64 nx) ∧ w.cell? ⟨b13, 1, none⟩ = some (.int .i64 ny) ∧ w.cell? ⟨b13, 2, none⟩ = some (.bool nis) ∧ w.cell? ⟨g2, 0, none⟩ = some v0 ∧ w.cell? ⟨g2, 1, none⟩ = some v1 ∧ w.cell? ⟨g2, 2, none⟩ = some v2
theorem TailC.fine {w w' : World} {b11 b13 g2 : Nat} {nx ny : Int} {nis : Bool} {v0 v1 v2 : Value} (h : TailC w b11 b13 g2 nx ny nis v0 v1 v2) (hl : b11 < w.heap.size ∧ b13 < w.heap.size ∧ g2 < w.heap.size) (hf : Fine w w') : TailC w' b11 b13 g2 nx ny nis v0 v1 v2 := by
  obtain ⟨l1, l2, l3⟩ := hl
  obtain ⟨h1, h2, h3, h4, h5, h6, h7, h8⟩ := h
  exact ⟨(hf.cell (p := ⟨b11, 0, none⟩) l1).trans h1, (hf.cell (p := ⟨b11, 1, none⟩) l1).trans h2, (hf.cell (p := ⟨b13, 0, none⟩) l2).trans h3, (hf.cell (p := ⟨b13, 1, none⟩) l2).trans h4, (hf.cell (p := ⟨b13, 2, none⟩) l2).trans h5, (hf.cell (p := ⟨g2, 0, none⟩) l3).trans h6, (hf.cell (p := ⟨g2, 1, none⟩) l3).trans h7, (hf.cell (p := ⟨g2, 2, none⟩) l3).trans h8⟩
theorem ints_same (A B : Option Addr) (c d : Nat) (xs : List Int) (w : World) (hx : RS LI w A c xs) (hy : RS LI w B d xs) :
    Calls Try.prog 28 #[.slice A xs.length c, .slice B xs.length d] w fun e w' => e = .returned (.bool true) ∧ Fine w w' :=
  (ints_any A B c d xs xs w hx hy).mono fun e w' ⟨he, hf⟩ => ⟨by rw [he]; simp, hf⟩
/-- Both managers, one state. -/
def Both (w wr : World) (g1 g2 base : Nat) (M : Int) : Prop := ∃ L, PMB wr g1 L M ∧ RefL wr g2 (fun x => x < base) L M ∧ Fine w wr
def Vb (base bt : Nat) (x : Nat) : Prop := x < base ∨ x = bt
def ActC (w : World) (bt : Nat) (z1 z2 : Int) : Prop := w.cell? ⟨bt, 1, none⟩ = some (.int .i64 z1) ∧ w.cell? ⟨bt, 2, none⟩ = some (.int .i64 z2)
theorem ActC.kept {w w' : World} {bt : Nat} {z1 z2 : Int} {S : Nat → Prop} (h : ActC w bt z1 z2) (hf : Kept S w w') (hb : bt < w.heap.size) (hn : ¬ S bt) : ActC w' bt z1 z2 :=
  ⟨(hf.cell (p := ⟨bt, 1, none⟩) hb hn).trans h.1, (hf.cell (p := ⟨bt, 2, none⟩) hb hn).trans h.2⟩
theorem Both.of {w wr : World} {g1 g2 base bt : Nat} {M : Int} {L : List Bool} (hp : PMB wr g1 L M) (hr : RefL wr g2 (Vb base bt) L M) (hf : Fine w wr) : Both w wr g1 g2 base M := ⟨L, hp, hr.less (fun k _ h => .inl h), hf⟩

set_option maxRecDepth 100000 in
set_option maxHeartbeats 4000000 in
theorem lawPathActs (w : World) (x0 x1 x2 : Int) (A : Option Addr) (len cap : Nat) (zs : Nat → Nat → Int) (hz : RecsIn .i64 3 w A len cap zs) :
    Calls Try.prog 5 #[.agg #[.int .i64 x0, .int .i64 x1, .int .i64 x2], .slice A len cap] w fun e w' => e = .returned (.bool true) ∧ Below w.heap.size w w' := by
  show Calls _ _ _ _ fun e w' => e = .returned (.bool true) ∧ Fine w w'
  obtain ⟨hlc, hcm, hnil, hwf, hcells⟩ := hz
  unfold maxLen at hcm
  clear hnil hwf
  have HCS := Lib.hid hcells; clear hcells
  by_cases hl : len ≤ 100
  · cases hm : mayI x0 && mayI x1
    · have hno : x0 < 0 ∨ (0 ≤ x0 ∧ 3 < x0) ∨ (0 ≤ x0 ∧ x0 ≤ 3 ∧ x1 < 0) ∨ (0 ≤ x0 ∧ x0 ≤ 3 ∧ 0 ≤ x1 ∧ 3 < x1) := by
        unfold mayI at hm
        simp at hm
        omega
      have HN := Lib.hid hm; clear hm
      go_enter Try.func5, Try.ntmps5
      go_wp2_with fail
      refine (wakes_any _).mono ?_; rintro e w1 ⟨rfl, f1⟩
      have hb1 : Blk w1 w.heap.size 42 #[.int .i64 x0, .int .i64 x1, .int .i64 x2] := (Blk.new w 42 #[.int .i64 x0, .int .i64 x1, .int .i64 x2]).fine f1
      have q0 : w1.cell? ⟨w.heap.size, 0, none⟩ = some (.int .i64 x0) := hb1.cell 0
      have q1 : w1.cell? ⟨w.heap.size, 1, none⟩ = some (.int .i64 x1) := hb1.cell 1
      have q2 : w1.cell? ⟨w.heap.size, 2, none⟩ = some (.int .i64 x2) := hb1.cell 2
      have HB1 := Lib.hid hb1; clear hb1
      have fw1 : Fine w w1 := ((Fine.refl w).alloc _).trans f1
      clear f1
      go_wp2_with fail
      refine (new_no x0 x1 x2 HN.out _).mono ?_; rintro e w2 ⟨rfl, f2⟩
      have hb2 := HB1.out.fine f2
      have q0' : w2.cell? ⟨w.heap.size, 0, none⟩ = some (.int .i64 x0) := hb2.cell 0
      have q1' : w2.cell? ⟨w.heap.size, 1, none⟩ = some (.int .i64 x1) := hb2.cell 1
      clear hb2 q0 q1 q2
      rcases hno with h1 | ⟨h1, h2⟩ | ⟨h1, h2, h3⟩ | ⟨h1, h2, h3, h4⟩
      all_goals
        go_wp2_with fail
        go_ret
        exact ⟨rfl, fw1.trans f2⟩
    · obtain ⟨n, rfl, hn⟩ := mayI_nat (by cases hx : mayI x0 <;> simp [hx] at hm ⊢)
      obtain ⟨k, rfl, hk⟩ := mayI_nat (a := x1) (by cases hx : mayI x1 <;> simp [hx] at hm ⊢)
      clear hm
      obtain ⟨M, hM⟩ : ∃ M, clampM x2 = M := ⟨_, rfl⟩
      have HM := Lib.hid hM; clear hM
      go_enter Try.func5, Try.ntmps5
      go_wp2_with fail
      refine (wakes_any _).mono ?_; rintro e w1 ⟨rfl, f1⟩
      have hb1 : Blk w1 w.heap.size 42 #[.int .i64 n, .int .i64 k, .int .i64 x2] := (Blk.new w 42 #[.int .i64 n, .int .i64 k, .int .i64 x2]).fine f1
      have q0 : w1.cell? ⟨w.heap.size, 0, none⟩ = some (.int .i64 n) := hb1.cell 0
      have q1 : w1.cell? ⟨w.heap.size, 1, none⟩ = some (.int .i64 k) := hb1.cell 1
      have q2 : w1.cell? ⟨w.heap.size, 2, none⟩ = some (.int .i64 x2) := hb1.cell 2
      have HB1 := Lib.hid hb1; clear hb1
      have fw1 : Fine w w1 := ((Fine.refl w).alloc _).trans f1
      clear f1
      go_wp2_with fail
      refine (new_is n k hn hk x2 _).mono ?_; rintro e w2 ⟨g1, rfl, p2, hg1, f2⟩
      rw [HM.out] at p2
      have P2 := Lib.hid p2; clear p2
      have hg1l := P2.out.lt
      have hb2 := HB1.out.fine f2
      have q0' : w2.cell? ⟨w.heap.size, 0, none⟩ = some (.int .i64 n) := hb2.cell 0
      have q1' : w2.cell? ⟨w.heap.size, 1, none⟩ = some (.int .i64 k) := hb2.cell 1
      have q2' : w2.cell? ⟨w.heap.size, 2, none⟩ = some (.int .i64 x2) := hb2.cell 2
      clear hb2 q0 q1 q2
      go_wp2_with fail
      refine (refnew_any n k hn hk x2 _).mono ?_; rintro e w3 ⟨g2, rfl, p3, f3⟩
      rw [HM.out] at p3
      have R3 := Lib.hid p3; clear p3
      have fw3 : Fine w w3 := (fw1.trans f2).trans f3
      have hboth : Hid (Both w w3 g1 g2 w2.heap.size M) := ⟨_, P2.out.fine f3, R3.out, fw3⟩
      have hg1b : g1 < w2.heap.size := hg1l
      have hbs := f3.size
      have hgw : w.heap.size ≤ g1 := Nat.le_trans fw1.size hg1
      generalize hbase : w2.heap.size = base at hboth hg1b hbs
      clear hbase q0' q1' q2' HB1 P2 R3 hg1 hg1l
      go_wp2_with fail
      go_loopg [62] len (fun gk s62 wr => ∃ q : Nat, q ≤ len ∧ gk = len - q ∧ s62 = .int .i64 q ∧ Both w wr g1 g2 base M ∧ base ≤ wr.heap.size)
      case atStart => exact ⟨0, Nat.zero_le _, rfl, rfl, hboth.out, hbs⟩
      case round =>
        obtain ⟨q, hq, hgk, rfl, ⟨L, hp, hr, hf⟩, hbw⟩ := hrel
        have HGK := Lib.hid hgk; have HP := Lib.hid hp; have HR := Lib.hid hr
        clear hgk hp hr hboth hbs
        by_cases hlt : q < len
        · obtain ⟨b, off, rfl, hb, hc⟩ := HCS.out (by omega)
          obtain ⟨z0, hz0⟩ : ∃ z, zs q 0 = z := ⟨_, rfl⟩
          obtain ⟨z1, hz1⟩ : ∃ z, zs q 1 = z := ⟨_, rfl⟩
          obtain ⟨z2, hz2⟩ : ∃ z, zs q 2 = z := ⟨_, rfl⟩
          have c0 : wr.cell? ⟨b, off + q * 3, none⟩ = some (.int .i64 z0) := by rw [← hz0]; exact (hf.cell hb).trans (hc q 0 hlt (by omega))
          have c1 : wr.cell? ⟨b, off + q * 3 + 1, none⟩ = some (.int .i64 z1) := by rw [← hz1]; exact (hf.cell hb).trans (hc q 1 hlt (by omega))
          have c2 : wr.cell? ⟨b, off + q * 3 + 2, none⟩ = some (.int .i64 z2) := by rw [← hz2]; exact (hf.cell hb).trans (hc q 2 hlt (by omega))
          clear hz0 hz1 hz2 hc
          have fa : Fine wr (wr.alloc (.cells #[.int .i64 z0, .int .i64 z1, .int .i64 z2] 47)) := (by repeat (first | exact Fine.refl _ | assumption | refine Fine.alloc ?_ _ | refine Fine.drew ?_ | refine Fine.drewN ?_ _ | refine Fine.trans ?_ (by assumption) | (refine Fine.kept ?_ (by assumption) (by intro x hx; first | omega | (simp; omega))) | (refine Fine.setCell ?_ (by first | assumption | (simp; done) | (simp; omega)) _)))
          have ha : Blk (wr.alloc (.cells #[.int .i64 z0, .int .i64 z1, .int .i64 z2] 47)) wr.heap.size 47 #[.int .i64 z0, .int .i64 z1, .int .i64 z2] := Blk.new _ _ _
          go_upto_block 2 with (fail)
          have ht : Hid (Blk (wr.alloc (.cells #[.int .i64 z0, .int .i64 z1, .int .i64 z2] 47)) wr.heap.size 47 #[.int .i64 z0, .int .i64 z1, .int .i64 z2]) := ha
          have HPA : Hid (PMB (wr.alloc (.cells #[.int .i64 z0, .int .i64 z1, .int .i64 z2] 47)) g1 L M) := HP.out.fine fa
          have HRA : Hid (RefL (wr.alloc (.cells #[.int .i64 z0, .int .i64 z1, .int .i64 z2] 47)) g2 (Vb base wr.heap.size) L M) := (HR.out.less (v' := Vb base wr.heap.size) (fun x hx e => e.elim id (fun e => by omega))).fine fa
          have hga : g1 < wr.heap.size ∧ g2 < wr.heap.size ∧ ¬ g2 < base := ⟨HP.out.lt, HR.out.lt.1, HR.out.lt.2⟩
          have hfa : Fine w (wr.alloc (.cells #[.int .i64 z0, .int .i64 z1, .int .i64 z2] 47)) := hf.trans fa
          have hbt : wr.heap.size < (wr.alloc (.cells #[.int .i64 z0, .int .i64 z1, .int .i64 z2] 47)).heap.size := by simp
          clear ha c0 c1 c2
          generalize (wr.alloc (.cells #[.int .i64 z0, .int .i64 z1, .int .i64 z2] 47)) = wa at ht HPA HRA hfa hbt fa ⊢
          generalize wr.heap.size = bt at ht hga hbw HRA hbt ⊢
          obtain ⟨ga1, ga2, ga3⟩ := hga
          have ga4 : base ≤ g2 := by omega
          clear ga3
          go_cut [10] (fun s10 wx => s10 = .bool true ∧ Both w wx g1 g2 base M ∧ base ≤ wx.heap.size)
          case first =>
            have hk : z0 = 0 ∨ z0 = 1 ∨ z0 = 2 ∨ z0 = 3 ∨ z0 = 4 ∨ z0 = 5 ∨ (z0 ≠ 0 ∧ z0 ≠ 1 ∧ z0 ≠ 2 ∧ z0 ≠ 3 ∧ z0 ≠ 4 ∧ z0 ≠ 5) := by omega
            have hta : Hid (ActC wa bt z1 z2) := ⟨ht.out.cell 1, ht.out.cell 2⟩
            have hne12 : g1 ≠ g2 := by omega
            have hnb1 : bt ≠ g1 := by omega
            have hnb2 : bt ≠ g2 := by omega
            have hnbv : ¬ ¬ Vb base bt bt := fun e => e (.inr rfl)
            have hnv1 : ¬ ¬ Vb base bt g1 := fun e => e (.inl hg1b)
            have hvA : ∀ x, Vb base bt x → x < wa.heap.size := fun x hx => hx.elim (fun e => by omega) (fun e => by omega)
            rcases hk with rfl | rfl | rfl | rfl | rfl | rfl | ⟨n0, n1, n2, n3, n4, n5⟩
            · go_wp2_with fail
              go_region_held3 (fun w' => w'.cell? ⟨bt, 1, none⟩ = some (.int .i64 z1) ∧ w'.cell? ⟨bt, 2, none⟩ = some (.int .i64 z2)) (first | exact hta.out | exact ActC.kept (w := wa.drew) hta.out kA hbt hnb1 | exact ActC.kept (ActC.kept (w := wa.drew) hta.out kA hbt hnb1) kB (Nat.lt_of_lt_of_le hbt kA.size) hnb2 | exact ActC.kept (w := wa.drew) hta.out kB hbt hnb2 | exact ActC.kept (ActC.kept (w := wa.drew) hta.out kB hbt hnb2) kA (Nat.lt_of_lt_of_le hbt kB.size) hnb1) (first | (go_at_call 9; refine (tell_any g1 L M z1 _ ?_).mono ?_; (first | exact HPA.out.fine (Fine.refl wa).drew | exact PMB.kept (HPA.out.fine (Fine.refl wa).drew) kB hne12); rintro e wA ⟨rfl, pA, kA⟩) | (go_at_call 18; refine (reftell_any g2 (Vb base bt) L M z1 _ ?_ ?_).mono ?_; (first | exact hvA | exact fun x hx => Nat.lt_of_lt_of_le (hvA x hx) kA.size); (first | exact HRA.out.fine (Fine.refl wa).drew | exact RefL.kept (HRA.out.fine (Fine.refl wa).drew) kA (fun x hx _ e => hx (.inl (Nat.lt_of_le_of_lt (Nat.le_of_eq e) hg1b)))); rintro e wB ⟨rfl, pB, kB⟩))
              go_wp2_with fail
              go_meet
              exact ⟨by first | rfl | simp, Both.of (PMB.kept pA kB hne12) pB ((Fine.kept hfa.drew kA (fun x hx e => by have e : x = g1 := e; omega)).kept kB (fun x hx e => by have e : x = g2 := e; omega)), Nat.le_trans (Nat.le_of_lt (Nat.lt_of_le_of_lt hbw hbt)) (Nat.le_trans kA.size kB.size)⟩
            · go_wp2_with fail
              go_region_held3 (fun w' => w'.cell? ⟨bt, 1, none⟩ = some (.int .i64 z1) ∧ w'.cell? ⟨bt, 2, none⟩ = some (.int .i64 z2)) (first | exact hta.out | exact ActC.kept (w := wa.drew) hta.out kA hbt hnb1 | exact ActC.kept (ActC.kept (w := wa.drew) hta.out kA hbt hnb1) kB (Nat.lt_of_lt_of_le hbt kA.size) hnb2 | exact ActC.kept (w := wa.drew) hta.out kB hbt hnb2 | exact ActC.kept (ActC.kept (w := wa.drew) hta.out kB hbt hnb2) kA (Nat.lt_of_lt_of_le hbt kB.size) hnb1) (first | (go_at_call 19; refine (untell_any g1 L M z1 _ ?_).mono ?_; (first | exact HPA.out.fine (Fine.refl wa).drew | exact PMB.kept (HPA.out.fine (Fine.refl wa).drew) kB hne12); rintro e wA ⟨rfl, pA, kA⟩) | (go_at_call 20; refine (refuntell_any g2 (Vb base bt) L M z1 _ ?_ ?_).mono ?_; (first | exact hvA | exact fun x hx => Nat.lt_of_lt_of_le (hvA x hx) kA.size); (first | exact HRA.out.fine (Fine.refl wa).drew | exact RefL.kept (HRA.out.fine (Fine.refl wa).drew) kA (fun x hx _ e => hx (.inl (Nat.lt_of_le_of_lt (Nat.le_of_eq e) hg1b)))); rintro e wB ⟨rfl, pB, kB⟩))
              go_wp2_with fail
              go_meet
              exact ⟨by first | rfl | simp, Both.of (PMB.kept pA kB hne12) pB ((Fine.kept hfa.drew kA (fun x hx e => by have e : x = g1 := e; omega)).kept kB (fun x hx e => by have e : x = g2 := e; omega)), Nat.le_trans (Nat.le_of_lt (Nat.lt_of_le_of_lt hbw hbt)) (Nat.le_trans kA.size kB.size)⟩
            · have t1 := hta.out.1
              go_wp2_with fail
              refine (told_any g1 L M z1 _ HPA.out).mono ?_; rintro e wA ⟨rfl, pA, kA⟩
              have hcA := hta.out.kept kA hbt hnb1
              have t1A := hcA.1
              have hsA := kA.size
              have hrA : RefL wA g2 (Vb base bt) L M := RefL.kept HRA.out kA (fun x hx _ e => hx (.inl (Nat.lt_of_le_of_lt (Nat.le_of_eq e) hg1b)))
              have HRB := Lib.hid hrA; have PA := Lib.hid pA
              clear hcA hrA pA
              go_wp2_with fail
              refine (reftold_any g2 (Vb base bt) L M z1 _ (fun x hx => Nat.lt_of_lt_of_le (hvA x hx) hsA) HRB.out).mono ?_; rintro e wB ⟨rfl, pB, kB⟩
              go_wp2_with fail
              go_meet
              exact ⟨rfl, Both.of (PMB.kept PA.out kB hne12) pB ((Fine.kept hfa kA (fun x hx e => by have e : x = g1 := e; omega)).kept kB (fun x hx e => by have e : x = g2 := e; omega)), Nat.le_trans (Nat.le_of_lt (Nat.lt_of_le_of_lt hbw hbt)) (Nat.le_trans hsA kB.size)⟩
            · go_wp2_with fail
              go_region_held3 (fun w' => w'.cell? ⟨bt, 1, none⟩ = some (.int .i64 z1) ∧ w'.cell? ⟨bt, 2, none⟩ = some (.int .i64 z2)) (first | exact hta.out | exact ActC.kept (S := fun _ => False) (ActC.kept (ActC.kept (w := wa.drew) hta.out kA hbt hnb1) kB (Nat.lt_of_lt_of_le hbt kA.size) hnb2) (Kept.of_fine fC) (Nat.lt_of_lt_of_le hbt (Nat.le_trans kA.size kB.size)) (fun e => e) | exact ActC.kept (w := wa.drew) hta.out kA hbt hnb1 | exact ActC.kept (ActC.kept (w := wa.drew) hta.out kA hbt hnb1) kB (Nat.lt_of_lt_of_le hbt kA.size) hnb2 | exact ActC.kept (w := wa.drew) hta.out kB hbt hnb2 | exact ActC.kept (ActC.kept (w := wa.drew) hta.out kB hbt hnb2) kA (Nat.lt_of_lt_of_le hbt kB.size) hnb1) (first | (go_at_call 23; refine (untold_any g1 L M z1 _ ?_).mono ?_; (first | exact HPA.out.fine (Fine.refl wa).drew | exact PMB.kept (HPA.out.fine (Fine.refl wa).drew) kB hne12); rintro e wA ⟨AX, cX, rfl, oA, pA, kA⟩) | (go_at_call 24; refine (refuntold_any g2 (Vb base bt) L M z1 _ ?_ ?_).mono ?_; (first | exact hvA | exact fun x hx => Nat.lt_of_lt_of_le (hvA x hx) kA.size); (first | exact HRA.out.fine (Fine.refl wa).drew | exact RefL.kept (HRA.out.fine (Fine.refl wa).drew) kA (fun x hx _ e => hx (.inl (Nat.lt_of_le_of_lt (Nat.le_of_eq e) hg1b)))); rintro e wB ⟨AY, cY, rfl, oB, pB, kB⟩) | (go_at_call 22; refine (pairsLaw_any AX AY cX cY (untoldP L z1) (untoldP L z1) (untoldP_le L z1) rfl (untoldP_sorted L z1) (fun p hp => hp) _ ?_ ?_).mono ?_; (exact oA.rs.1.kept kB (fun b' off' e h => Nat.lt_irrefl _ (Nat.lt_of_lt_of_le (Nat.lt_trans ga2 hbt) (Nat.le_trans (oA.from_ b' off' e).1 (Nat.le_of_eq h))))); (exact oB.rs.1); rintro e wC ⟨rfl, fC⟩))
              go_wp2_with fail
              go_meet
              exact ⟨by first | rfl | simp, Both.of ((PMB.kept pA kB hne12).fine fC) (pB.fine fC) (Fine.trans ((Fine.kept hfa.drew kA (fun x hx e => by have e : x = g1 := e; omega)).kept kB (fun x hx e => by have e : x = g2 := e; omega)) fC), Nat.le_trans (Nat.le_of_lt (Nat.lt_of_le_of_lt hbw hbt)) (Nat.le_trans (Nat.le_trans kA.size kB.size) fC.size)⟩
            · go_wp2_with fail
              go_region_held3 (fun w' => w'.cell? ⟨bt, 1, none⟩ = some (.int .i64 z1) ∧ w'.cell? ⟨bt, 2, none⟩ = some (.int .i64 z2)) (first | exact hta.out | exact ActC.kept (w := wa.drew) hta.out kA hbt hnb1 | exact ActC.kept (ActC.kept (w := wa.drew) hta.out kA hbt hnb1) kB (Nat.lt_of_lt_of_le hbt kA.size) hnbv | exact ActC.kept (w := wa.drew) hta.out kB hbt hnbv | exact ActC.kept (ActC.kept (w := wa.drew) hta.out kB hbt hnbv) kA (Nat.lt_of_lt_of_le hbt kB.size) hnb1) (first | (go_at_call 12; refine (join_any g1 L M z1 z2 _ ?_).mono ?_; (first | exact HPA.out.fine (Fine.refl wa).drew | exact PMB.kept (HPA.out.fine (Fine.refl wa).drew) kB hnv1); rintro e wA ⟨rfl, pA, kA⟩) | (go_at_call 25; refine (refjoin_any g2 (Vb base bt) L M z1 z2 _ ?_ ?_).mono ?_; (first | exact hvA | exact fun x hx => Nat.lt_of_lt_of_le (hvA x hx) kA.size); (first | exact HRA.out.fine (Fine.refl wa).drew | exact RefL.kept (HRA.out.fine (Fine.refl wa).drew) kA (fun x hx _ e => hx (.inl (Nat.lt_of_le_of_lt (Nat.le_of_eq e) hg1b)))); rintro e wB ⟨rfl, pB, kB⟩))
              go_wp2_with fail
              go_meet
              exact ⟨by first | rfl | simp, Both.of (PMB.kept pA kB hnv1) pB ((Fine.kept hfa.drew kA (fun x hx e => by have e : x = g1 := e; omega)).kept kB (fun x hx e => e (.inl (by omega)))), Nat.le_trans (Nat.le_of_lt (Nat.lt_of_le_of_lt hbw hbt)) (Nat.le_trans kA.size kB.size)⟩
            · go_wp2_with fail
              go_region_held3 (fun w' => w'.cell? ⟨bt, 1, none⟩ = some (.int .i64 z1) ∧ w'.cell? ⟨bt, 2, none⟩ = some (.int .i64 z2)) (first | exact hta.out | exact ActC.kept (w := wa.drew) hta.out kA hbt hnb1 | exact ActC.kept (ActC.kept (w := wa.drew) hta.out kA hbt hnb1) kB (Nat.lt_of_lt_of_le hbt kA.size) hnb2 | exact ActC.kept (w := wa.drew) hta.out kB hbt hnb2 | exact ActC.kept (ActC.kept (w := wa.drew) hta.out kB hbt hnb2) kA (Nat.lt_of_lt_of_le hbt kB.size) hnb1) (first | (go_at_call 16; refine (gone_any g1 L M z1 z2 _ ?_).mono ?_; (first | exact HPA.out.fine (Fine.refl wa).drew | exact PMB.kept (HPA.out.fine (Fine.refl wa).drew) kB hne12); rintro e wA ⟨rfl, pA, kA⟩) | (go_at_call 26; refine (refgone_any g2 (Vb base bt) L M z1 z2 _ ?_ ?_).mono ?_; (first | exact hvA | exact fun x hx => Nat.lt_of_lt_of_le (hvA x hx) kA.size); (first | exact HRA.out.fine (Fine.refl wa).drew | exact RefL.kept (HRA.out.fine (Fine.refl wa).drew) kA (fun x hx _ e => hx (.inl (Nat.lt_of_le_of_lt (Nat.le_of_eq e) hg1b)))); rintro e wB ⟨rfl, pB, kB⟩))
              go_wp2_with fail
              go_meet
              exact ⟨by first | rfl | simp, Both.of (PMB.kept pA kB hne12) pB ((Fine.kept hfa.drew kA (fun x hx e => by have e : x = g1 := e; omega)).kept kB (fun x hx e => by have e : x = g2 := e; omega)), Nat.le_trans (Nat.le_of_lt (Nat.lt_of_le_of_lt hbw hbt)) (Nat.le_trans kA.size kB.size)⟩
            · have q0 : (z0 == 0) = false := beq_eq_false_iff_ne.2 n0
              have q1 : (z0 == 1) = false := beq_eq_false_iff_ne.2 n1
              have q2 : (z0 == 2) = false := beq_eq_false_iff_ne.2 n2
              have q3 : (z0 == 3) = false := beq_eq_false_iff_ne.2 n3
              have q4 : (z0 == 4) = false := beq_eq_false_iff_ne.2 n4
              have q5 : (z0 == 5) = false := beq_eq_false_iff_ne.2 n5
              clear n0 n1 n2 n3 n4 n5
              go_wp2_with fail
              go_meet
              exact ⟨rfl, Both.of HPA.out HRA.out hfa, Nat.le_of_lt (Nat.lt_of_le_of_lt hbw hbt)⟩
          case rest =>
            clear HPA HRA ht hfa HP HR
            obtain ⟨rfl, ⟨L2, hp2, hr2, hf2⟩, hb2⟩ := hcut
            have HP := Lib.hid hp2; have HR := Lib.hid hr2
            clear hp2 hr2
            obtain ⟨nx, ny, nis, hv1, hv2⟩ := next_both (nextOf L2 M)
            have HV1 := Lib.hid hv1; have HV2 := Lib.hid hv2
            clear hv1 hv2
            go_wp2_with fail
            refine (next_any g1 L2 M _ HP.out).mono ?_; rintro e w4 ⟨rfl, f4⟩
            rw [HV1.out]
            go_wp2_with fail
            refine (refnext_any g2 _ L2 M _ (HR.out.fine (f4.alloc _))).mono ?_; rintro e w5 ⟨rfl, f5⟩
            rw [HV2.out]
            clear fa hbt ga1 ga2 hbw hb
            obtain ⟨hL2, Ls, hm2, hb2'⟩ := HR.out
            obtain ⟨A1, c1, A2, c2, A3, c3, hbk, h1, h2, h3, hg, s1, s2, s3⟩ := hb2'
            have H1 := Lib.hid h1; have H2 := Lib.hid h2; have H3 := Lib.hid h3.rs.1; have HBK := Lib.hid hbk
            have HM2 : Hid ((pairsN L2 4).length = Ls.length ∧ ∀ p ∈ pairsN L2 4, p ∈ Ls) := ⟨hm2.len.symm, fun p hp => (hm2.mem p).2 hp⟩
            have HPS := Lib.hid (pairs_sorted L2 4)
            have HP16 := Lib.hid (pairs_len_16 L2)
            clear hL2 hm2 hbk h1 h2 h3 hg s1 s2 s3
            have hb11 : Blk (w4.alloc (.cells #[.int .i64 nx, .int .i64 ny] 31)) w4.heap.size 31 #[.int .i64 nx, .int .i64 ny] := Blk.new _ _ _
            have hb13 : Blk (w5.alloc (.cells #[.int .i64 nx, .int .i64 ny, .bool nis] 56)) w5.heap.size 56 #[.int .i64 nx, .int .i64 ny, .bool nis] := Blk.new _ _ _
            have f6 : Fine w5 (w5.alloc (.cells #[.int .i64 nx, .int .i64 ny, .bool nis] 56)) := (by repeat (first | exact Fine.refl _ | assumption | refine Fine.alloc ?_ _ | refine Fine.drew ?_ | refine Fine.drewN ?_ _ | refine Fine.trans ?_ (by assumption) | (refine Fine.kept ?_ (by assumption) (by intro x hx; first | omega | (simp; omega))) | (refine Fine.setCell ?_ (by first | assumption | (simp; done) | (simp; omega)) _)))
            have fc6 : Fine wc (w5.alloc (.cells #[.int .i64 nx, .int .i64 ny, .bool nis] 56)) := ((f4.alloc _).trans f5).trans f6
            have hb11' := (hb11.fine f5).fine f6
            go_wp2_with fail
            have hbk6 := HBK.out.fine fc6
            have ht : Hid (TailC (w5.alloc (.cells #[.int .i64 nx, .int .i64 ny, .bool nis] 56)) w4.heap.size w5.heap.size g2 nx ny nis (.slice A1 (addrs (ownB L2) 4).length c1) (.slice A2 (addrs (othB L2) 4).length c2) (.slice A3 Ls.length c3)) := ⟨hb11'.cell 0, hb11'.cell 1, hb13.cell 0, hb13.cell 1, hb13.cell 2, hbk6.cell 0, hbk6.cell 1, hbk6.cell 2⟩
            have htl : Hid (w4.heap.size < (w5.alloc (.cells #[.int .i64 nx, .int .i64 ny, .bool nis] 56)).heap.size ∧ w5.heap.size < (w5.alloc (.cells #[.int .i64 nx, .int .i64 ny, .bool nis] 56)).heap.size ∧ g2 < (w5.alloc (.cells #[.int .i64 nx, .int .i64 ny, .bool nis] 56)).heap.size) := ⟨hb11'.lt, hb13.lt, hbk6.lt⟩
            clear hb11 hb13 hb11' hbk6
            generalize (w5.alloc (.cells #[.int .i64 nx, .int .i64 ny, .bool nis] 56)) = w6 at ht htl f6 fc6 ⊢
            generalize w4.heap.size = b11 at ht htl ⊢
            generalize w5.heap.size = b13 at ht htl ⊢
            have P6 := Lib.hid (HP.out.fine fc6)
            have H16 := Lib.hid (H1.out.fine fc6); have H26 := Lib.hid (H2.out.fine fc6); have H36 := Lib.hid (H3.out.fine fc6)
            have fw6 : Fine w w6 := hf2.trans fc6
            have hb6 : base ≤ w6.heap.size := Nat.le_trans hb2 fc6.size
            have HRC := Lib.hid (HR.out.fine fc6)
            clear f4 f5 f6 fc6 HP HR H1 H2 H3 HBK HV1 HV2 hf2 hb2
            have hd : Fine w6 w6.drew := (Fine.refl w6).drew
            go_region_held3 (fun w' => w'.cell? ⟨b11, 0, none⟩ = some (.int .i64 nx) ∧ w'.cell? ⟨b11, 1, none⟩ = some (.int .i64 ny) ∧ w'.cell? ⟨b13, 0, none⟩ = some (.int .i64 nx) ∧ w'.cell? ⟨b13, 1, none⟩ = some (.int .i64 ny) ∧ w'.cell? ⟨b13, 2, none⟩ = some (.bool nis) ∧ w'.cell? ⟨g2, 0, none⟩ = some (.slice A1 (addrs (ownB L2) 4).length c1) ∧ w'.cell? ⟨g2, 1, none⟩ = some (.slice A2 (addrs (othB L2) 4).length c2) ∧ w'.cell? ⟨g2, 2, none⟩ = some (.slice A3 Ls.length c3)) (first | exact ht.out | exact ht.out.fine htl.out (hd.trans fO) | exact ht.out.fine htl.out ((hd.trans fO).trans fI) | exact ht.out.fine htl.out (((hd.trans fO).trans fI).trans fT) | exact ht.out.fine htl.out ((((hd.trans fO).trans fI).trans fT).trans fJ) | exact ht.out.fine htl.out (((((hd.trans fO).trans fI).trans fT).trans fJ).trans fP) | exact ht.out.fine htl.out ((((((hd.trans fO).trans fI).trans fT).trans fJ).trans fP).trans fL)) (first | (go_at_call 14; refine (own_any g1 L2 M _ ?_).mono ?_; (exact P6.out.fine hd); rintro e wO ⟨AO, cO, rfl, oO, fO⟩) | (go_at_call 15; refine (other_any g1 L2 M _ ?_).mono ?_; (exact P6.out.fine ((hd.trans fO).trans fI)); rintro e wT ⟨AT, cT, rfl, oT, fT⟩) | (go_at_call 13; refine (pairs_any g1 L2 M _ ?_).mono ?_; (exact P6.out.fine ((((hd.trans fO).trans fI).trans fT).trans fJ)); rintro e wP ⟨AP, cP, rfl, oP, fP⟩) | (go_at_call 28; refine (ints_same AT A2 cT c2 (addrs (othB L2) 4) _ ?_ ?_).mono ?_; (exact oT.rs.1); (exact H26.out.fine (((hd.trans fO).trans fI).trans fT)); rintro e wJ ⟨rfl, fJ⟩) | (go_at_call 28; refine (ints_same AO A1 cO c1 (addrs (ownB L2) 4) _ ?_ ?_).mono ?_; (exact oO.rs.1); (exact H16.out.fine (hd.trans fO)); rintro e wI ⟨rfl, fI⟩) | (go_at_call 22; refine (pairsLaw_any AP A3 cP c3 (pairsN L2 4) Ls HP16.out HM2.out.1 HPS.out HM2.out.2 _ ?_ ?_).mono ?_; (exact oP.rs.1); (exact H36.out.fine (((((hd.trans fO).trans fI).trans fT).trans fJ).trans fP)); rintro e wL ⟨rfl, fL⟩))
            go_wp2_with fail
            have fz : Fine w6 wL := (((((hd.trans fO).trans fI).trans fT).trans fJ).trans fP).trans fL
            go_roundg (len - (q + 1))
            case measure => have := HGK.out; omega
            case rel => exact ⟨q + 1, by omega, rfl, by go_num, ⟨L2, P6.out.fine fz, HRC.out.fine fz, fw6.trans fz⟩, Nat.le_trans hb6 fz.size⟩
        · go_wp2_with fail
          go_ret
          exact ⟨rfl, hf⟩
  · go_enter Try.func5, Try.ntmps5
    go_wp2_with fail
    refine (wakes_any _).mono ?_; rintro e w1 ⟨rfl, f1⟩
    go_wp2_with fail
    go_ret
    exact ⟨rfl, ((Fine.refl w).alloc _).trans f1⟩
end Go.Proofs.Ytbgdcpecpcmjdaa
