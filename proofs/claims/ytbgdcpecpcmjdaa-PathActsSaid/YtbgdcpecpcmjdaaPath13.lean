/- Contracts of the document's manager: New, Next; the law's 'pairs'; the comparison of lists. -/
import Derived.Test.YtbgdcpecpcmjdaaPath12
import Derived.Deep.Cut
namespace Go.Proofs.Ytbgdcpecpcmjdaa
open Go.ChangeShapes Go.WideShapes Go.ChangeAt Go.RowKit
set_option linter.unusedVariables false

theorem RefB.start (w : World) (m : Int) : RefB (w.alloc (.cells #[.slice none 0 0, .slice none 0 0, .slice none 0 0, .int .i64 m] 60)) w.heap.size (fun k => k < w.heap.size) [] [] [] m :=
  ⟨none, 0, none, 0, none, 0, Blk.new w 60 _, RS.nil_ _ _, RS.nil_ _ _, Own.nil_ _ _ _ _, Nat.lt_irrefl _, (fun b off e => by cases e), (fun b off e => by cases e), (fun k e => by cases e)⟩
theorem fresh_own : ∀ n, n < 4 → ∀ k, k < 4 → moreL [] (n : Nat) = addrs (ownB (freshL n k)) 4 ∧ moreL [] (k : Nat) = addrs (othB (freshL n k)) 4 ∧ [((n : Int), (k : Int))] = pairsN (freshL n k) 4 := by decide +kernel

set_option maxHeartbeats 1000000 in
theorem refnew_any (n k : Nat) (hn : n < 4) (hk : k < 4) (m : Int) (w : World) :
    Calls Try.prog 17 #[.int .i64 n, .int .i64 k, .int .i64 m] w fun e w' => ∃ g, e = .returned (.pointer (some ⟨g, 0, none⟩)) ∧ RefL w' g (fun k => k < w.heap.size) (freshL n k) (clampM m) ∧ Fine w w' := by
  obtain ⟨c, hc⟩ : ∃ c, clampM m = c := ⟨_, rfl⟩
  have hsplit : (m < 1 ∧ c = 1) ∨ (8 < m ∧ c = 8) ∨ (1 ≤ m ∧ m ≤ 8 ∧ c = m) := by unfold clampM at hc; omega
  have HC := Lib.hid hc; clear hc
  obtain ⟨fo1, fo2, fo3⟩ := fresh_own n hn k hk
  have FO1 := Lib.hid fo1; have FO2 := Lib.hid fo2; have FO3 := Lib.hid fo3
  clear fo1 fo2 fo3
  rw [HC.out]
  rcases hsplit with ⟨h1, rfl⟩ | ⟨h1, rfl⟩ | ⟨h1, h2, rfl⟩
  · go_enter Try.func17, Try.ntmps17
    go_wp2_with fail
    have hR0 := RefB.start w 1
    have f0 : Fine w (w.alloc (.cells #[.slice none 0 0, .slice none 0 0, .slice none 0 0, .int .i64 1] 60)) := (by repeat (first | exact Fine.refl _ | assumption | refine Fine.alloc ?_ _ | refine Fine.drew ?_ | refine Fine.drewN ?_ _ | refine Fine.trans ?_ (by assumption) | (refine Fine.kept ?_ (by assumption) (by intro x hx; first | omega | (simp; omega))) | (refine Fine.setCell ?_ (by first | assumption | (simp; done) | (simp; omega)) _)))
    have hz0 : (w.alloc (.cells #[.slice none 0 0, .slice none 0 0, .slice none 0 0, .int .i64 1] 60)).heap.size = w.heap.size + 1 := by simp
    generalize (w.alloc (.cells #[.slice none 0 0, .slice none 0 0, .slice none 0 0, .int .i64 1] 60)) = w0 at hR0 f0 hz0 ⊢
    have R0 := Lib.hid hR0; clear hR0
    have hv0 : Hid (∀ x, x < w.heap.size → x < w0.heap.size) := fun x hx => by omega
    have HZ := Lib.hid hz0; clear hz0
    refine (more_any none 0 [] n (by simp) _ (RS.nil_ _ _)).mono ?_; rintro e w1 ⟨A1, c1, rfl, ho1, f1⟩
    have hb1 : ∃ A1 c1 A2 c2 A3 c3, _ := R0.out
    obtain ⟨B1, d1, B2, d2, B3, d3, hb, _⟩ := hb1
    have hbf := hb.fine f1
    have e0 : w1.cell? ⟨w.heap.size, 0, none⟩ = some (.slice B1 0 d1) := hbf.cell 0
    have r0 := hbf.frozen 0
    have hs1 := R0.out.set1 hv0.out f1 ho1
    generalize hzs : moreL [] (n : Int) = zs at hs1 ⊢
    have HZS := Lib.hid hzs; clear hzs hb hbf ho1
    have hk1 := hs1.2
    have RS1 := Lib.hid hs1.1; clear hs1
    have hsz1 := hk1.size
    have hv1 : Hid (∀ x, x < w.heap.size → x < (w1.setCell ⟨w.heap.size, 0, none⟩ (.slice A1 zs.length c1)).heap.size) := fun x hx => by have := hv0.out x hx; omega
    go_wp2_with fail
    refine (more_any none 0 [] k (by simp) _ (RS.nil_ _ _)).mono ?_; rintro e w2 ⟨A2, c2, rfl, ho2, f2⟩
    have hb1 : ∃ A1 c1 A2 c2 A3 c3, _ := RS1.out
    obtain ⟨B1, d1, B2, d2, B3, d3, hb, _⟩ := hb1
    have hbf := hb.fine f2
    have e1 : w2.cell? ⟨w.heap.size, 1, none⟩ = some (.slice B2 0 d2) := hbf.cell 1
    have r1 := hbf.frozen 1
    have hs2 := RS1.out.set2 hv1.out f2 ho2
    generalize hys : moreL [] (k : Int) = ys at hs2 ⊢
    have HYS := Lib.hid hys; clear hys hb hbf ho2
    have hk2 := hs2.2
    have RS2 := Lib.hid hs2.1; clear hs2
    have hsz2 := hk2.size
    go_upto_region 8 with (fail)
    generalize (w2.setCell ⟨w.heap.size, 1, none⟩ (.slice A2 ys.length c2)) = w3 at RS2 hk2 hsz2 ⊢
    have hb3 : ∃ A1 c1 A2 c2 A3 c3, _ := RS2.out
    obtain ⟨B1, d1, B2, d2, B3, d3, hb, g1, g2, g3, gg, s1, s2, s3⟩ := hb3
    have q2 : w3.cell? ⟨w.heap.size, 2, none⟩ = some (.slice B3 0 d3) := hb.cell 2
    have G1 := Lib.hid g1; have G2 := Lib.hid g2; have G3 := Lib.hid g3; have GG := Lib.hid gg; have S1 := Lib.hid s1; have S2 := Lib.hid s2; have S3 := Lib.hid s3; have HB := Lib.hid hb
    clear g1 g2 g3 gg s1 s2 s3 hb
    have k03 : Kept (· = w.heap.size) w0 w3 := hk1.trans hk2
    have f3 : Fine w w3 := f0.kept k03 (by intro x hx; omega)
    clear hk1 hk2
    go_wp2_with (at_builtin; refine wpList_appE rfl sliceR (.tmp 29) (.tmp 33) rfl 0 _ [] rfl (G3.out.alloc _) (some ⟨w3.heap.size, 0, none⟩) 1 1 [((n : Int), (k : Int))] rfl rfl (RS.litQ 54 _ _ (by simp)) ?_ ?_ ?_ ?_)
    · (first | omega | (unfold maxLen; omega) | (simp; omega) | (simp; unfold maxLen; omega))
    · intro A4 c4 w4 hown4 hk4 hg4
      have f4 : Fine w3 (w3.alloc (.cells #[.int .i64 n, .int .i64 k] 54)) := (by repeat (first | exact Fine.refl _ | assumption | refine Fine.alloc ?_ _ | refine Fine.drew ?_ | refine Fine.drewN ?_ _ | refine Fine.trans ?_ (by assumption) | (refine Fine.kept ?_ (by assumption) (by intro x hx; first | omega | (simp; omega))) | (refine Fine.setCell ?_ (by first | assumption | (simp; done) | (simp; omega)) _)))
      have hs4 := f4.size
      have hset := RefB.set3 (v := fun x => x < w.heap.size) (Ls := []) (Ms := [((n : Int), (k : Int))]) (c := c4) (A := A4) (HB.out.fine f4) (G1.out.fine f4) (G2.out.fine f4) GG.out (fun b off e => ⟨(S1.out b off e).1, by have := (S1.out b off e).2.1; omega, (S1.out b off e).2.2⟩) (fun b off e => ⟨(S2.out b off e).1, by have := (S2.out b off e).2.1; omega, (S2.out b off e).2.2⟩) S3.out (fun x hx => by have := f3.size; omega) (by simpa using hown4.out) hg4.out.1 (by simpa using hg4.out.2)
      have e2 : w4.cell? ⟨w.heap.size, 2, none⟩ = some (.slice B3 0 d3) := hset.2.2.cell 2
      have r2' := hset.2.2.frozen 2
      have HSET := Lib.hid hset; clear hset
      go_wp2
      go_ret
      have hs := HSET.out
      refine ⟨w.heap.size, rfl, ⟨by unfold freshL; rfl, [((n : Int), (k : Int))], ?_, ?_⟩, ?_⟩
      · unfold Match; rw [← FO3.out]
      · rw [← FO1.out, ← FO2.out, HZS.out, HYS.out]; exact hs.1
      · exact Fine.kept (a := w) (f3.alloc _) hs.2.1 (fun x hx e => e.elim (fun e => by omega) (fun e => (S3.out x e).2 hx))
  · go_enter Try.func17, Try.ntmps17
    go_wp2_with fail
    have hR0 := RefB.start w 8
    have f0 : Fine w (w.alloc (.cells #[.slice none 0 0, .slice none 0 0, .slice none 0 0, .int .i64 8] 60)) := (by repeat (first | exact Fine.refl _ | assumption | refine Fine.alloc ?_ _ | refine Fine.drew ?_ | refine Fine.drewN ?_ _ | refine Fine.trans ?_ (by assumption) | (refine Fine.kept ?_ (by assumption) (by intro x hx; first | omega | (simp; omega))) | (refine Fine.setCell ?_ (by first | assumption | (simp; done) | (simp; omega)) _)))
    have hz0 : (w.alloc (.cells #[.slice none 0 0, .slice none 0 0, .slice none 0 0, .int .i64 8] 60)).heap.size = w.heap.size + 1 := by simp
    generalize (w.alloc (.cells #[.slice none 0 0, .slice none 0 0, .slice none 0 0, .int .i64 8] 60)) = w0 at hR0 f0 hz0 ⊢
    have R0 := Lib.hid hR0; clear hR0
    have hv0 : Hid (∀ x, x < w.heap.size → x < w0.heap.size) := fun x hx => by omega
    have HZ := Lib.hid hz0; clear hz0
    refine (more_any none 0 [] n (by simp) _ (RS.nil_ _ _)).mono ?_; rintro e w1 ⟨A1, c1, rfl, ho1, f1⟩
    have hb1 : ∃ A1 c1 A2 c2 A3 c3, _ := R0.out
    obtain ⟨B1, d1, B2, d2, B3, d3, hb, _⟩ := hb1
    have hbf := hb.fine f1
    have e0 : w1.cell? ⟨w.heap.size, 0, none⟩ = some (.slice B1 0 d1) := hbf.cell 0
    have r0 := hbf.frozen 0
    have hs1 := R0.out.set1 hv0.out f1 ho1
    generalize hzs : moreL [] (n : Int) = zs at hs1 ⊢
    have HZS := Lib.hid hzs; clear hzs hb hbf ho1
    have hk1 := hs1.2
    have RS1 := Lib.hid hs1.1; clear hs1
    have hsz1 := hk1.size
    have hv1 : Hid (∀ x, x < w.heap.size → x < (w1.setCell ⟨w.heap.size, 0, none⟩ (.slice A1 zs.length c1)).heap.size) := fun x hx => by have := hv0.out x hx; omega
    go_wp2_with fail
    refine (more_any none 0 [] k (by simp) _ (RS.nil_ _ _)).mono ?_; rintro e w2 ⟨A2, c2, rfl, ho2, f2⟩
    have hb1 : ∃ A1 c1 A2 c2 A3 c3, _ := RS1.out
    obtain ⟨B1, d1, B2, d2, B3, d3, hb, _⟩ := hb1
    have hbf := hb.fine f2
    have e1 : w2.cell? ⟨w.heap.size, 1, none⟩ = some (.slice B2 0 d2) := hbf.cell 1
    have r1 := hbf.frozen 1
    have hs2 := RS1.out.set2 hv1.out f2 ho2
    generalize hys : moreL [] (k : Int) = ys at hs2 ⊢
    have HYS := Lib.hid hys; clear hys hb hbf ho2
    have hk2 := hs2.2
    have RS2 := Lib.hid hs2.1; clear hs2
    have hsz2 := hk2.size
    go_upto_region 8 with (fail)
    generalize (w2.setCell ⟨w.heap.size, 1, none⟩ (.slice A2 ys.length c2)) = w3 at RS2 hk2 hsz2 ⊢
    have hb3 : ∃ A1 c1 A2 c2 A3 c3, _ := RS2.out
    obtain ⟨B1, d1, B2, d2, B3, d3, hb, g1, g2, g3, gg, s1, s2, s3⟩ := hb3
    have q2 : w3.cell? ⟨w.heap.size, 2, none⟩ = some (.slice B3 0 d3) := hb.cell 2
    have G1 := Lib.hid g1; have G2 := Lib.hid g2; have G3 := Lib.hid g3; have GG := Lib.hid gg; have S1 := Lib.hid s1; have S2 := Lib.hid s2; have S3 := Lib.hid s3; have HB := Lib.hid hb
    clear g1 g2 g3 gg s1 s2 s3 hb
    have k03 : Kept (· = w.heap.size) w0 w3 := hk1.trans hk2
    have f3 : Fine w w3 := f0.kept k03 (by intro x hx; omega)
    clear hk1 hk2
    go_wp2_with (at_builtin; refine wpList_appE rfl sliceR (.tmp 29) (.tmp 33) rfl 0 _ [] rfl (G3.out.alloc _) (some ⟨w3.heap.size, 0, none⟩) 1 1 [((n : Int), (k : Int))] rfl rfl (RS.litQ 54 _ _ (by simp)) ?_ ?_ ?_ ?_)
    · (first | omega | (unfold maxLen; omega) | (simp; omega) | (simp; unfold maxLen; omega))
    · intro A4 c4 w4 hown4 hk4 hg4
      have f4 : Fine w3 (w3.alloc (.cells #[.int .i64 n, .int .i64 k] 54)) := (by repeat (first | exact Fine.refl _ | assumption | refine Fine.alloc ?_ _ | refine Fine.drew ?_ | refine Fine.drewN ?_ _ | refine Fine.trans ?_ (by assumption) | (refine Fine.kept ?_ (by assumption) (by intro x hx; first | omega | (simp; omega))) | (refine Fine.setCell ?_ (by first | assumption | (simp; done) | (simp; omega)) _)))
      have hs4 := f4.size
      have hset := RefB.set3 (v := fun x => x < w.heap.size) (Ls := []) (Ms := [((n : Int), (k : Int))]) (c := c4) (A := A4) (HB.out.fine f4) (G1.out.fine f4) (G2.out.fine f4) GG.out (fun b off e => ⟨(S1.out b off e).1, by have := (S1.out b off e).2.1; omega, (S1.out b off e).2.2⟩) (fun b off e => ⟨(S2.out b off e).1, by have := (S2.out b off e).2.1; omega, (S2.out b off e).2.2⟩) S3.out (fun x hx => by have := f3.size; omega) (by simpa using hown4.out) hg4.out.1 (by simpa using hg4.out.2)
      have e2 : w4.cell? ⟨w.heap.size, 2, none⟩ = some (.slice B3 0 d3) := hset.2.2.cell 2
      have r2' := hset.2.2.frozen 2
      have HSET := Lib.hid hset; clear hset
      go_wp2
      go_ret
      have hs := HSET.out
      refine ⟨w.heap.size, rfl, ⟨by unfold freshL; rfl, [((n : Int), (k : Int))], ?_, ?_⟩, ?_⟩
      · unfold Match; rw [← FO3.out]
      · rw [← FO1.out, ← FO2.out, HZS.out, HYS.out]; exact hs.1
      · exact Fine.kept (a := w) (f3.alloc _) hs.2.1 (fun x hx e => e.elim (fun e => by omega) (fun e => (S3.out x e).2 hx))
  · go_enter Try.func17, Try.ntmps17
    go_wp2_with fail
    have hR0 := RefB.start w c
    have f0 : Fine w (w.alloc (.cells #[.slice none 0 0, .slice none 0 0, .slice none 0 0, .int .i64 c] 60)) := (by repeat (first | exact Fine.refl _ | assumption | refine Fine.alloc ?_ _ | refine Fine.drew ?_ | refine Fine.drewN ?_ _ | refine Fine.trans ?_ (by assumption) | (refine Fine.kept ?_ (by assumption) (by intro x hx; first | omega | (simp; omega))) | (refine Fine.setCell ?_ (by first | assumption | (simp; done) | (simp; omega)) _)))
    have hz0 : (w.alloc (.cells #[.slice none 0 0, .slice none 0 0, .slice none 0 0, .int .i64 c] 60)).heap.size = w.heap.size + 1 := by simp
    generalize (w.alloc (.cells #[.slice none 0 0, .slice none 0 0, .slice none 0 0, .int .i64 c] 60)) = w0 at hR0 f0 hz0 ⊢
    have R0 := Lib.hid hR0; clear hR0
    have hv0 : Hid (∀ x, x < w.heap.size → x < w0.heap.size) := fun x hx => by omega
    have HZ := Lib.hid hz0; clear hz0
    refine (more_any none 0 [] n (by simp) _ (RS.nil_ _ _)).mono ?_; rintro e w1 ⟨A1, c1, rfl, ho1, f1⟩
    have hb1 : ∃ A1 c1 A2 c2 A3 c3, _ := R0.out
    obtain ⟨B1, d1, B2, d2, B3, d3, hb, _⟩ := hb1
    have hbf := hb.fine f1
    have e0 : w1.cell? ⟨w.heap.size, 0, none⟩ = some (.slice B1 0 d1) := hbf.cell 0
    have r0 := hbf.frozen 0
    have hs1 := R0.out.set1 hv0.out f1 ho1
    generalize hzs : moreL [] (n : Int) = zs at hs1 ⊢
    have HZS := Lib.hid hzs; clear hzs hb hbf ho1
    have hk1 := hs1.2
    have RS1 := Lib.hid hs1.1; clear hs1
    have hsz1 := hk1.size
    have hv1 : Hid (∀ x, x < w.heap.size → x < (w1.setCell ⟨w.heap.size, 0, none⟩ (.slice A1 zs.length c1)).heap.size) := fun x hx => by have := hv0.out x hx; omega
    go_wp2_with fail
    refine (more_any none 0 [] k (by simp) _ (RS.nil_ _ _)).mono ?_; rintro e w2 ⟨A2, c2, rfl, ho2, f2⟩
    have hb1 : ∃ A1 c1 A2 c2 A3 c3, _ := RS1.out
    obtain ⟨B1, d1, B2, d2, B3, d3, hb, _⟩ := hb1
    have hbf := hb.fine f2
    have e1 : w2.cell? ⟨w.heap.size, 1, none⟩ = some (.slice B2 0 d2) := hbf.cell 1
    have r1 := hbf.frozen 1
    have hs2 := RS1.out.set2 hv1.out f2 ho2
    generalize hys : moreL [] (k : Int) = ys at hs2 ⊢
    have HYS := Lib.hid hys; clear hys hb hbf ho2
    have hk2 := hs2.2
    have RS2 := Lib.hid hs2.1; clear hs2
    have hsz2 := hk2.size
    go_upto_region 8 with (fail)
    generalize (w2.setCell ⟨w.heap.size, 1, none⟩ (.slice A2 ys.length c2)) = w3 at RS2 hk2 hsz2 ⊢
    have hb3 : ∃ A1 c1 A2 c2 A3 c3, _ := RS2.out
    obtain ⟨B1, d1, B2, d2, B3, d3, hb, g1, g2, g3, gg, s1, s2, s3⟩ := hb3
    have q2 : w3.cell? ⟨w.heap.size, 2, none⟩ = some (.slice B3 0 d3) := hb.cell 2
    have G1 := Lib.hid g1; have G2 := Lib.hid g2; have G3 := Lib.hid g3; have GG := Lib.hid gg; have S1 := Lib.hid s1; have S2 := Lib.hid s2; have S3 := Lib.hid s3; have HB := Lib.hid hb
    clear g1 g2 g3 gg s1 s2 s3 hb
    have k03 : Kept (· = w.heap.size) w0 w3 := hk1.trans hk2
    have f3 : Fine w w3 := f0.kept k03 (by intro x hx; omega)
    clear hk1 hk2
    go_wp2_with (at_builtin; refine wpList_appE rfl sliceR (.tmp 29) (.tmp 33) rfl 0 _ [] rfl (G3.out.alloc _) (some ⟨w3.heap.size, 0, none⟩) 1 1 [((n : Int), (k : Int))] rfl rfl (RS.litQ 54 _ _ (by simp)) ?_ ?_ ?_ ?_)
    · (first | omega | (unfold maxLen; omega) | (simp; omega) | (simp; unfold maxLen; omega))
    · intro A4 c4 w4 hown4 hk4 hg4
      have f4 : Fine w3 (w3.alloc (.cells #[.int .i64 n, .int .i64 k] 54)) := (by repeat (first | exact Fine.refl _ | assumption | refine Fine.alloc ?_ _ | refine Fine.drew ?_ | refine Fine.drewN ?_ _ | refine Fine.trans ?_ (by assumption) | (refine Fine.kept ?_ (by assumption) (by intro x hx; first | omega | (simp; omega))) | (refine Fine.setCell ?_ (by first | assumption | (simp; done) | (simp; omega)) _)))
      have hs4 := f4.size
      have hset := RefB.set3 (v := fun x => x < w.heap.size) (Ls := []) (Ms := [((n : Int), (k : Int))]) (c := c4) (A := A4) (HB.out.fine f4) (G1.out.fine f4) (G2.out.fine f4) GG.out (fun b off e => ⟨(S1.out b off e).1, by have := (S1.out b off e).2.1; omega, (S1.out b off e).2.2⟩) (fun b off e => ⟨(S2.out b off e).1, by have := (S2.out b off e).2.1; omega, (S2.out b off e).2.2⟩) S3.out (fun x hx => by have := f3.size; omega) (by simpa using hown4.out) hg4.out.1 (by simpa using hg4.out.2)
      have e2 : w4.cell? ⟨w.heap.size, 2, none⟩ = some (.slice B3 0 d3) := hset.2.2.cell 2
      have r2' := hset.2.2.frozen 2
      have HSET := Lib.hid hset; clear hset
      go_wp2
      go_ret
      have hs := HSET.out
      refine ⟨w.heap.size, rfl, ⟨by unfold freshL; rfl, [((n : Int), (k : Int))], ?_, ?_⟩, ?_⟩
      · unfold Match; rw [← FO3.out]
      · rw [← FO1.out, ← FO2.out, HZS.out, HYS.out]; exact hs.1
      · exact Fine.kept (a := w) (f3.alloc _) hs.2.1 (fun x hx e => e.elim (fun e => by omega) (fun e => (S3.out x e).2 hx))

theorem ints_any (A B : Option Addr) (c d : Nat) (xs ys : List Int) (w : World) (hx : RS LI w A c xs) (hy : RS LI w B d ys) :
    Calls Try.prog 28 #[.slice A xs.length c, .slice B ys.length d] w fun e w' => e = .returned (.bool (decide (xs = ys))) ∧ Fine w w' := by
  have hx1 := hx.le
  have hx2 := hx.max
  have hy1 := hy.le
  have hy2 := hy.max
  unfold maxLen at hx2 hy2
  by_cases hl : xs.length = ys.length
  · have hlb : ((xs.length : Int) != (ys.length : Int)) = false := by simp [hl]
    have hle : xs.length ≤ ys.length ∧ ys.length ≤ xs.length := by omega
    have HL := Lib.hid hl; clear hl
    go_enter Try.func28, Try.ntmps28
    go_wp2_with fail
    go_loopw [5] (fun i wr => ∃ k : Nat, k ≤ xs.length ∧ i = .int .i64 k ∧ xs.take k = ys.take k ∧ Fine w wr) (fun i _ => xs.length - (intOf i).toNat)
    case atStart => exact ⟨0, Nat.zero_le _, rfl, by simp, (by repeat (first | exact Fine.refl _ | assumption | refine Fine.alloc ?_ _ | refine Fine.drew ?_ | refine Fine.drewN ?_ _ | refine Fine.trans ?_ (by assumption) | (refine Fine.kept ?_ (by assumption) (by intro x hx; first | omega | (simp; omega))) | (refine Fine.setCell ?_ (by first | assumption | (simp; done) | (simp; omega)) _)))⟩
    case round =>
      obtain ⟨k, hk, rfl, ht0, hf⟩ := hrel
      have HT := Lib.hid ht0; clear ht0
      by_cases hlt : k < xs.length
      · obtain ⟨b1, o1, rfl, hb1, hc1⟩ := (hx.fine hf).atI hlt
        obtain ⟨b2, o2, rfl, hb2, hc2⟩ := (hy.fine hf).atI (i := k) (by omega)
        obtain ⟨z1, hz1⟩ : ∃ z, xs.getD k 0 = z := ⟨_, rfl⟩
        obtain ⟨z2, hz2⟩ : ∃ z, ys.getD k 0 = z := ⟨_, rfl⟩
        rw [hz1] at hc1
        rw [hz2] at hc2
        have HZ1 := Lib.hid hz1; clear hz1
        have HZ2 := Lib.hid hz2; clear hz2
        have hlt2 : k < ys.length := by omega
        by_cases hz : z1 = z2
        · have hzb : (z1 != z2) = false := by simp [hz]
          have HZ := Lib.hid hz; clear hz
          go_wp2
          go_region
          go_wp2
          go_roundw
          case rel => exact ⟨k + 1, by omega, by go_num, by
            show _ = _
            rw [List.take_succ_eq_append_getElem hlt, List.take_succ_eq_append_getElem hlt2, HT.out]
            have e1 := HZ1.out
            have e2 := HZ2.out
            simp [List.getD, hlt, hlt2] at e1 e2
            rw [e1, e2, HZ.out], (by repeat (first | exact Fine.refl _ | assumption | refine Fine.alloc ?_ _ | refine Fine.drew ?_ | refine Fine.drewN ?_ _ | refine Fine.trans ?_ (by assumption) | (refine Fine.kept ?_ (by assumption) (by intro x hx; first | omega | (simp; omega))) | (refine Fine.setCell ?_ (by first | assumption | (simp; done) | (simp; omega)) _)))⟩
          case measure => simp [intOf]; omega
        · have hzb : (z1 != z2) = true := by simp [hz]
          have HZ := Lib.hid hz; clear hz
          go_wp2
          go_region
          go_wp2
          go_ret
          refine ⟨ret_bool ?_, (by repeat (first | exact Fine.refl _ | assumption | refine Fine.alloc ?_ _ | refine Fine.drew ?_ | refine Fine.drewN ?_ _ | refine Fine.trans ?_ (by assumption) | (refine Fine.kept ?_ (by assumption) (by intro x hx; first | omega | (simp; omega))) | (refine Fine.setCell ?_ (by first | assumption | (simp; done) | (simp; omega)) _)))⟩
          symm
          simp
          rintro rfl
          exact HZ.out (HZ1.out.symm.trans HZ2.out)
      · have e : k = xs.length := by omega
        have hT := HT.out
        rw [e, List.take_length, List.take_of_length_le hle.2] at hT
        have HE := Lib.hid hT; clear hT e
        go_wp2
        go_ret
        exact ⟨ret_bool (by simp [HE.out]), (by repeat (first | exact Fine.refl _ | assumption | refine Fine.alloc ?_ _ | refine Fine.drew ?_ | refine Fine.drewN ?_ _ | refine Fine.trans ?_ (by assumption) | (refine Fine.kept ?_ (by assumption) (by intro x hx; first | omega | (simp; omega))) | (refine Fine.setCell ?_ (by first | assumption | (simp; done) | (simp; omega)) _)))⟩
  · have hlb : ((xs.length : Int) != (ys.length : Int)) = true := by simp; omega
    have HL := Lib.hid hl; clear hl
    go_enter Try.func28, Try.ntmps28
    go_wp2_with fail
    go_ret
    exact ⟨ret_bool (by symm; simp; rintro rfl; exact HL.out rfl), (by repeat (first | exact Fine.refl _ | assumption | refine Fine.alloc ?_ _ | refine Fine.drew ?_ | refine Fine.drewN ?_ _ | refine Fine.trans ?_ (by assumption) | (refine Fine.kept ?_ (by assumption) (by intro x hx; first | omega | (simp; omega))) | (refine Fine.setCell ?_ (by first | assumption | (simp; done) | (simp; omega)) _)))⟩
end Go.Proofs.Ytbgdcpecpcmjdaa
