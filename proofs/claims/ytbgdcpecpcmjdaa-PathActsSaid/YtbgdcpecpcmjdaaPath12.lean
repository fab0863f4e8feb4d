/- Contracts of the document's manager beside the program's state: Join, New. -/
import Derived.Test.YtbgdcpecpcmjdaaPath11
namespace Go.Proofs.Ytbgdcpecpcmjdaa
open Go.ChangeShapes Go.WideShapes Go.ChangeAt Go.RowKit
set_option linter.unusedVariables false

/-- 'p.L = append(p.L, ..)', from what append leaves. -/
theorem RefB.set3 {w0 w : World} {g : Nat} {v : Nat → Prop} {xs ys : List Int} {Ls Ms : List (Int × Int)} {m : Int} {A1 A2 A3 A : Option Addr} {c1 c2 c3 c : Nat}
    (hb : Blk w0 g 60 #[.slice A1 xs.length c1, .slice A2 ys.length c2, .slice A3 Ls.length c3, .int .i64 m]) (h1 : RS LI w0 A1 c1 xs) (h2 : RS LI w0 A2 c2 ys) (hg : ¬ v g)
    (s1 : ∀ b off, A1 = some ⟨b, off, none⟩ → ¬ v b ∧ b < w0.heap.size ∧ b ≠ g ∧ (Value.slice A3 Ls.length c3).ownBlock ≠ some b) (s2 : ∀ b off, A2 = some ⟨b, off, none⟩ → ¬ v b ∧ b < w0.heap.size ∧ b ≠ g ∧ (Value.slice A3 Ls.length c3).ownBlock ≠ some b)
    (s3 : ∀ k, (Value.slice A3 Ls.length c3).ownBlock = some k → k ≠ g ∧ ¬ v k) (hv : ∀ k, v k → k < w0.heap.size)
    (ho : Own layQ 54 w 0 (.slice A Ms.length c) Ms) (hgr : w0.grownBy w (Value.slice A3 Ls.length c3).ownBlock) (hbl : (Value.slice A Ms.length c).ownBlock = (Value.slice A3 Ls.length c3).ownBlock ∨ (Value.slice A Ms.length c).ownBlock = some w0.heap.size) :
    RefB (w.setCell ⟨g, 2, none⟩ (.slice A Ms.length c)) g v xs ys Ms m ∧ Kept (fun x => x = g ∨ (Value.slice A3 Ls.length c3).ownBlock = some x) w0 (w.setCell ⟨g, 2, none⟩ (.slice A Ms.length c)) ∧ Blk w g 60 #[.slice A1 xs.length c1, .slice A2 ys.length c2, .slice A3 Ls.length c3, .int .i64 m] := by
  have hlt := hb.lt
  have hset : Kept (· = g) w (w.setCell ⟨g, 2, none⟩ (.slice A Ms.length c)) := (by repeat (first | exact Kept.refl _ _ | assumption | (refine Kept.setIn ?_ (by simp) _) | refine Kept.alloc ?_ _ | refine Kept.drew ?_ | refine Kept.drewN ?_ _ | refine Kept.trans ?_ (by assumption) | refine Kept.trans ?_ (Kept.of_fine (by assumption))))
  have hss : (w.setCell ⟨g, 2, none⟩ (.slice A Ms.length c)).heap.size = w.heap.size := by simp [World.setCell]
  have hsz := hgr.size
  have hbw : Blk w g 60 #[.slice A1 xs.length c1, .slice A2 ys.length c2, .slice A3 Ls.length c3, .int .i64 m] := hb.grown hgr (fun e => (s3 g e.symm).1 rfl)
  have hblk : ∀ k, (Value.slice A Ms.length c).ownBlock = some k → k ≠ g ∧ ¬ v k ∧ ∀ b, b < w0.heap.size → (Value.slice A3 Ls.length c3).ownBlock ≠ some b → b ≠ k := fun k hk => by
    rcases hbl with h | h
    · have h5 := h.symm.trans hk
      exact ⟨(s3 k h5).1, (s3 k h5).2, fun b _ hb e => hb (e ▸ h5)⟩
    · have h5 := Option.some.inj (h.symm.trans hk)
      exact ⟨by omega, fun e => by have := hv k e; omega, fun b hb _ e => by omega⟩
  refine ⟨⟨A1, c1, A2, c2, A, c, hbw.set_ 2 _, (h1.grown hgr (fun b off e => (s1 b off e).2.2.2)).kept hset (fun b off e => (s1 b off e).2.2.1), (h2.grown hgr (fun b off e => (s2 b off e).2.2.2)).kept hset (fun b off e => (s2 b off e).2.2.1), ho.kept hset (fun k hk => (hblk k hk).1), hg, fun b off e => ?_, fun b off e => ?_, fun k hk => ⟨(hblk k hk).1, (hblk k hk).2.1⟩⟩, ?_, hbw⟩
  · have h4 := s1 b off e
    exact ⟨h4.1, by have := h4.2.1; omega, h4.2.2.1, fun e' => (hblk b e').2.2 b h4.2.1 h4.2.2.2 rfl⟩
  · have h4 := s2 b off e
    exact ⟨h4.1, by have := h4.2.1; omega, h4.2.2.1, fun e' => (hblk b e').2.2 b h4.2.1 h4.2.2.2 rfl⟩
  · exact ((Kept.refl (fun x => x = g ∨ (Value.slice A3 Ls.length c3).ownBlock = some x) _).grown hgr (fun k hk _ => .inr hk)).trans (hset.mono (fun x _ e => .inl e))

theorem join_lists {L : List Bool} (hL : L.length = 24) {n k : Nat} (hn : n < 4) (hk : k < 4) : addrs (ownB (L.set (8 + n * 4 + k) true)) 4 = addrs (ownB L) 4 ∧ addrs (othB (L.set (8 + n * 4 + k) true)) 4 = addrs (othB L) 4 :=
  ⟨addrs_congr fun i hi => own_set hL hn hk true hi, addrs_congr fun i hi => oth_set hL hn hk true hi⟩

set_option maxHeartbeats 1000000 in
theorem refjoin_any (g : Nat) (v : Nat → Prop) (L : List Bool) (m a b : Int) (w : World) (hv : ∀ k, v k → k < w.heap.size) (h : RefL w g v L m) :
    Calls Try.prog 25 #[.pointer (some ⟨g, 0, none⟩), .int .i64 a, .int .i64 b] w fun e w' => e = .returned (.int .i64 (joinC L m a b)) ∧ RefL w' g v (joinL L m a b) m ∧ Kept (fun x => ¬ v x) w w' := by
  have HR := Lib.hid h
  obtain ⟨hL, Ls, hm, hb⟩ := h
  have hlt := hb.lt
  have HM := Lib.hid hm; have HB := Lib.hid hb
  have hmf := hm.flow a b
  have hml := hm.len
  have hms := hm.small
  clear hm
  cases hma : mayI a
  · have HC := Lib.hid (joinC_no (L := L) (m := m) (a := a) (b := b) (by rw [hma]; rfl))
    have HMA := Lib.hid hma
    clear hb hma hmf hml
    go_enter Try.func25, Try.ntmps25
    go_wp2_with fail
    refine (refmay_any _ _).mono ?_; rintro e w1 ⟨rfl, rfl⟩
    rw [HMA.out]
    go_wp2_with fail
    go_ret
    exact ⟨ret_int HC.out.1.symm, by rw [HC.out.2]; exact HR.out, Kept.refl _ _⟩
  · cases hmb : mayI b
    · have HC := Lib.hid (joinC_no (L := L) (m := m) (a := a) (b := b) (by rw [hma, hmb]; rfl))
      have HMA := Lib.hid hma; have HMB := Lib.hid hmb
      clear hb hma hmb hmf hml
      go_enter Try.func25, Try.ntmps25
      go_wp2_with fail
      refine (refmay_any _ _).mono ?_; rintro e w1 ⟨rfl, rfl⟩
      rw [HMA.out]
      go_wp2_with fail
      refine (refmay_any _ _).mono ?_; rintro e w1 ⟨rfl, rfl⟩
      rw [HMB.out]
      go_wp2_with fail
      go_ret
      exact ⟨ret_int HC.out.1.symm, by rw [HC.out.2]; exact HR.out, Kept.refl _ _⟩
    · have HMA := Lib.hid hma; have HMB := Lib.hid hmb
      have hmay : (mayI a && mayI b) = true := by rw [hma, hmb]; rfl
      obtain ⟨n, rfl, hn⟩ := mayI_nat hma
      obtain ⟨k, rfl, hk⟩ := mayI_nat hmb
      have hmf' : decide (((n : Int), (k : Int)) ∈ Ls) = flowB L n k := by rw [hmf, hma, hmb, Int.toNat_natCast, Int.toNat_natCast]; rfl
      have HMF := Lib.hid hmf'
      clear hma hmb hmf hmf'
      have ho1 := Lib.hid (addrs_has (p := ownB L) (k := 4) hn)
      have ho2 := Lib.hid (addrs_has (p := othB L) (k := 4) hk)
      have hz1 := addrs_le (ownB L) 4
      have hz2 := addrs_le (othB L) 4
      obtain ⟨A1, c1, A2, c2, A3, c3, hb0, h1, h2, h3, hg, s1, s2, s3⟩ := hb
      have d0 : w.cell? ⟨g, 0, none⟩ = some (.slice A1 (addrs (ownB L) 4).length c1) := hb0.cell 0
      have d1 : w.cell? ⟨g, 1, none⟩ = some (.slice A2 (addrs (othB L) 4).length c2) := hb0.cell 1
      have d2 : w.cell? ⟨g, 2, none⟩ = some (.slice A3 Ls.length c3) := hb0.cell 2
      have d3 : w.cell? ⟨g, 3, none⟩ = some (.int .i64 m) := hb0.cell 3
      have r2 := hb0.frozen 2
      have H1 := Lib.hid h1; have H2 := Lib.hid h2; have H3 := Lib.hid h3; have HB0 := Lib.hid hb0
      have S1 := Lib.hid s1; have S2 := Lib.hid s2; have S3 := Lib.hid s3; have HG := Lib.hid hg
      clear hb0 h1 h2 h3 s1 s2 s3 hg
      have hcase : ownB L n = false ∨ (ownB L n = true ∧ othB L k = false) ∨ (ownB L n = true ∧ othB L k = true ∧ flowB L n k = true) ∨ (ownB L n = true ∧ othB L k = true ∧ flowB L n k = false ∧ m ≤ (Ls.length : Int)) ∨ (ownB L n = true ∧ othB L k = true ∧ flowB L n k = false ∧ (Ls.length : Int) < m) := by
        by_cases hl : m ≤ (Ls.length : Int)
        · cases ownB L n <;> cases othB L k <;> cases flowB L n k <;> simp [hl]
        · have hl' : (Ls.length : Int) < m := by omega
          cases ownB L n <;> cases othB L k <;> cases flowB L n k <;> simp [hl']
      have HV := Lib.hid hv; clear hv
      rcases hcase with e1 | ⟨e1, e2⟩ | ⟨e1, e2, e3⟩ | ⟨e1, e2, e3, hl⟩ | ⟨e1, e2, e3, hl⟩
      · have HC := Lib.hid (joinC_none (L := L) (m := m) hmay (by rw [e1]; rfl))
        have E1 := Lib.hid e1
        clear hmay e1
        go_enter Try.func25, Try.ntmps25
        go_wp2_with fail
        refine (refmay_any _ _).mono ?_; rintro e w1 ⟨rfl, rfl⟩
        rw [HMA.out]
        go_wp2_with fail
        refine (refmay_any _ _).mono ?_; rintro e w1 ⟨rfl, rfl⟩
        rw [HMB.out]
        go_wp2_with fail
        refine (has_any A1 c1 _ n hz1 _ H1.out).mono ?_; rintro e w1 ⟨rfl, rfl⟩
        rw [ho1.out, E1.out]
        go_wp2_with fail
        go_ret
        exact ⟨ret_int HC.out.1.symm, by rw [HC.out.2]; exact HR.out, Kept.refl _ _⟩
      · have HC := Lib.hid (joinC_none (L := L) (m := m) hmay (by rw [e1, e2]; rfl))
        have E1 := Lib.hid e1; have E2 := Lib.hid e2
        clear hmay e1 e2
        go_enter Try.func25, Try.ntmps25
        go_wp2_with fail
        refine (refmay_any _ _).mono ?_; rintro e w1 ⟨rfl, rfl⟩
        rw [HMA.out]
        go_wp2_with fail
        refine (refmay_any _ _).mono ?_; rintro e w1 ⟨rfl, rfl⟩
        rw [HMB.out]
        go_wp2_with fail
        refine (has_any A1 c1 _ n hz1 _ H1.out).mono ?_; rintro e w1 ⟨rfl, rfl⟩
        rw [ho1.out, E1.out]
        go_wp2_with fail
        refine (has_any A2 c2 _ k hz2 _ H2.out).mono ?_; rintro e w1 ⟨rfl, rfl⟩
        rw [ho2.out, E2.out]
        go_wp2_with fail
        go_ret
        exact ⟨ret_int HC.out.1.symm, by rw [HC.out.2]; exact HR.out, Kept.refl _ _⟩
      all_goals
        have HC : Hid (joinC L m n k = (if flowB L n k then 8 else if m ≤ (Ls.length : Int) then 7 else 0) ∧ joinL L m n k = (if flowB L n k = false ∧ ¬ m ≤ (Ls.length : Int) then L.set (8 + n * 4 + k) true else L)) := by
          constructor
          · simp only [joinC, hmay, Int.toNat_natCast, e1, e2, ← hml]; simp
          · simp only [joinL, joinC, hmay, Int.toNat_natCast, e1, e2, e3, ← hml]
            first | (simp [hl]; done) | (rw [if_neg (by omega : ¬ m ≤ (Ls.length : Int))]; simp; omega) | simp
        have E1 := Lib.hid e1; have E2 := Lib.hid e2; have E3 := Lib.hid e3
        clear hmay e1 e2 e3 hml
        go_enter Try.func25, Try.ntmps25
        go_wp2_with fail
        refine (refmay_any _ _).mono ?_; rintro e w1 ⟨rfl, rfl⟩
        rw [HMA.out]
        go_wp2_with fail
        refine (refmay_any _ _).mono ?_; rintro e w1 ⟨rfl, rfl⟩
        rw [HMB.out]
        go_wp2_with fail
        refine (has_any A1 c1 _ n hz1 _ H1.out).mono ?_; rintro e w1 ⟨rfl, rfl⟩
        rw [ho1.out, E1.out]
        go_wp2_with fail
        refine (has_any A2 c2 _ k hz2 _ H2.out).mono ?_; rintro e w1 ⟨rfl, rfl⟩
        rw [ho2.out, E2.out]
        go_wp2_with fail
        refine (flow_any g v _ _ Ls m n k hms _ HB.out).mono ?_; rintro e w1 ⟨rfl, rfl⟩
        rw [HMF.out, E3.out]
        rw [E3.out] at HC
        go_wp2_with fail
      · go_ret
        exact ⟨ret_int HC.out.1.symm, by rw [HC.out.2]; simpa using HR.out, Kept.refl _ _⟩
      · go_region
        go_wp2
        go_ret
        exact ⟨ret_int (by rw [HC.out.1]; simp [hl]), by rw [HC.out.2, if_neg (by omega)]; exact HR.out.fine (by repeat (first | exact Fine.refl _ | assumption | refine Fine.alloc ?_ _ | refine Fine.drew ?_ | refine Fine.drewN ?_ _ | refine Fine.trans ?_ (by assumption) | (refine Fine.kept ?_ (by assumption) (by intro x hx; first | omega | (simp; omega))) | (refine Fine.setCell ?_ (by first | assumption | (simp; done) | (simp; omega)) _))), Kept.of_fine (by repeat (first | exact Fine.refl _ | assumption | refine Fine.alloc ?_ _ | refine Fine.drew ?_ | refine Fine.drewN ?_ _ | refine Fine.trans ?_ (by assumption) | (refine Fine.kept ?_ (by assumption) (by intro x hx; first | omega | (simp; omega))) | (refine Fine.setCell ?_ (by first | assumption | (simp; done) | (simp; omega)) _)))⟩
      · go_region
        have hf1 : Fine w1 w1.drew := (by repeat (first | exact Fine.refl _ | assumption | refine Fine.alloc ?_ _ | refine Fine.drew ?_ | refine Fine.drewN ?_ _ | refine Fine.trans ?_ (by assumption) | (refine Fine.kept ?_ (by assumption) (by intro x hx; first | omega | (simp; omega))) | (refine Fine.setCell ?_ (by first | assumption | (simp; done) | (simp; omega)) _)))
        generalize hwd : w1.drew = wd at hf1 ⊢
        have HB1 := Lib.hid (HB0.out.fine hf1)
        have H31 := Lib.hid (H3.out.fine hf1)
        have dd2 : wd.cell? ⟨g, 2, none⟩ = some (.slice A3 Ls.length c3) := HB1.out.cell 2
        clear hwd
        have hsz1 := hf1.size
        go_wp2_with (at_builtin; refine wpList_appE rfl sliceR (.tmp 49) (.tmp 53) rfl 0 _ Ls rfl (H31.out.alloc _) (some ⟨wd.heap.size, 0, none⟩) 1 1 [((n : Int), (k : Int))] rfl rfl (RS.litQ 54 _ _ (by simp)) ?_ ?_ ?_ ?_)
        · (first | omega | (unfold maxLen; omega) | (simp; omega) | (simp; unfold maxLen; omega))
        · (first | omega | (unfold maxLen; omega) | (simp; omega) | (simp; unfold maxLen; omega))
        · (first | omega | (unfold maxLen; omega) | (simp; omega) | (simp; unfold maxLen; omega))
        · intro A2' c2' w2 hown2 hk2 hg2
          have f2 : Fine w1 (wd.alloc (.cells #[.int .i64 n, .int .i64 k] 54)) := (by repeat (first | exact Fine.refl _ | assumption | refine Fine.alloc ?_ _ | refine Fine.drew ?_ | refine Fine.drewN ?_ _ | refine Fine.trans ?_ (by assumption) | (refine Fine.kept ?_ (by assumption) (by intro x hx; first | omega | (simp; omega))) | (refine Fine.setCell ?_ (by first | assumption | (simp; done) | (simp; omega)) _)))
          have hs2 := f2.size
          have hset := RefB.set3 (v := v) (Ms := Ls ++ [((n : Int), (k : Int))]) (c := c2') (A := A2') (HB0.out.fine f2) (H1.out.fine f2) (H2.out.fine f2) HG.out (fun b off e => ⟨(S1.out b off e).1, by have := (S1.out b off e).2.1; omega, (S1.out b off e).2.2⟩) (fun b off e => ⟨(S2.out b off e).1, by have := (S2.out b off e).2.1; omega, (S2.out b off e).2.2⟩) S3.out (fun x hx => by have := HV.out x hx; omega) (by simpa using hown2.out) hg2.out.1 (by simpa using hg2.out.2)
          have e2 : w2.cell? ⟨g, 2, none⟩ = some (.slice A3 Ls.length c3) := hset.2.2.cell 2
          have r2' := hset.2.2.frozen 2
          have HSET := Lib.hid hset; clear hset
          go_wp2
          go_ret
          have hj := join_lists hL hn hk
          have hs := HSET.out
          simp only [List.length_append, List.length_singleton] at hs
          refine ⟨ret_int (by rw [HC.out.1]; simp; omega), ?_, ?_⟩
          · rw [HC.out.2, if_pos ⟨trivial, hl⟩]
            exact ⟨by rw [List.length_set]; exact hL, _, HM.out.add hL hn hk E3.out, by rw [hj.1, hj.2]; simpa using hs.1⟩
          · exact (Kept.of_fine f2).trans (hs.2.1.mono (fun x _ e => e.elim (fun e => e ▸ HG.out) (fun e => (S3.out x e).2)))
end Go.Proofs.Ytbgdcpecpcmjdaa
