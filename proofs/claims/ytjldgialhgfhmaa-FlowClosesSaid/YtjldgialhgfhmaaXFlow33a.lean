/- The law FlowCloses: all comes. -/
import Derived.Test.YtjldgialhgfhmaaXFlow32a
import Derived.Test.YtjldgialhgfhmaaXPairD
namespace Go.Proofs.Ytjldgialhgfhmaa
set_option linter.unusedVariables false
set_option linter.unusedSimpArgs false
open Go.ChangeShapes Go.WideShapes Go.ChangeAt Go.RowKit Go.Maps
set_option linter.unusedVariables false
set_option linter.unusedSimpArgs false
/-- Two flows, and a variable that points at them. -/
def At2 (w0 : World) (g x : Nat) (P : Pr) (w : World) : Prop := ∃ col, PrS col w0 w g P ∧ col x = 0 ∧ Blk w x 70 #[.pointer (some ⟨g, 0, none⟩)]
section
variable {w0 w w' : World} {g x : Nat} {P P' : Pr}
theorem At2.fine_ (h : At2 w0 g x P w) (f : Fine w w') : At2 w0 g x P w' := by
  obtain ⟨c, h, h0, hb⟩ := h
  exact ⟨c, h.fine_ f, h0, hb.fine f⟩
theorem At2.from0 (h : At2 w0 g x P w) : Fine w0 w := by
  obtain ⟨c, ⟨f0, p1, wA, wc, ks, a0, a1, b0, b1, X⟩, _⟩ := h
  exact X.fine
theorem At2.cell_ (h : At2 w0 g x P w) : w.cell? ⟨x, 0, none⟩ = some (.pointer (some ⟨g, 0, none⟩)) := by
  obtain ⟨c, _, _, hb⟩ := h
  exact hb.cell 0
theorem at2_of {col : Nat → Nat} (h0 : col x = 0) (hb : Blk w x 70 #[.pointer (some ⟨g, 0, none⟩)]) (h : PrOf col w0 g P' w w') : At2 w0 g x P' w' := by
  obtain ⟨c1, j1, j2, j3⟩ := h
  exact ⟨c1, j1, Classical.byContradiction fun e => (j3 x e).elim (fun e2 => e2 h0) (fun e2 => by have := hb.lt; omega), hb.kept j2 (fun e => e h0)⟩
theorem At2.step_ (h : At2 w0 g x P w) (kind i : Int) (hi : -9223372036854775808 ≤ i ∧ i ≤ 9223372036854775807) (hF : Fits P kind i) :
    Calls Try.prog 43 #[.pointer (some ⟨g, 0, none⟩), .agg #[.int .i64 kind, .int .i64 i]] w fun e w' => e = .returned (.tuple #[]) ∧ At2 w0 g x (P.step kind i) w' := by
  obtain ⟨c, h, h0, hb⟩ := h
  refine (step_any h kind i hi hF).mono ?_
  rintro e w' ⟨h1, h2⟩
  exact ⟨h1, at2_of h0 hb h2⟩
theorem At2.flush_ (h : At2 w0 g x P w) (hF : Fit P) : Calls Try.prog 46 #[.pointer (some ⟨g, 0, none⟩)] w fun e w' => e = .returned (.tuple #[]) ∧ At2 w0 g x P.flush w' := by
  obtain ⟨c, h, h0, hb⟩ := h
  refine (flush_any h (fun o ho => hF.f0.out o ho) (fun o ho => hF.out1 o ho)).mono ?_
  rintro e w' ⟨h1, h2⟩
  exact ⟨h1, at2_of h0 hb h2⟩
theorem At2.start (h : At w0 g P w) (hx : x = w.heap.size) : At2 w0 g x P (w.alloc (.cells #[.pointer (some ⟨g, 0, none⟩)] 70)) := by
  obtain ⟨c, f0, p1, wA, wc, ks, a0, a1, b0, b1, X⟩ := h
  exact ⟨c, ⟨_, _, _, _, _, _, _, _, _, X.fine_ ((Fine.refl w).alloc _)⟩, Classical.byContradiction fun e => by have := (X.base x e).2; omega, Blk.newAt hx⟩
end
section
variable {iss : Int} {K L : Nat} {P : Pr} {t : Int}
theorem good_all (h : Good P iss K L t) (hK : K ≤ 1000000) (hL : L ≤ 800) (ht : t + 300 ≤ 1099511626999) : Good (allCome P) iss K L (t + 300) := good_drain hK hL 300 ht h.flush_
end
theorem ticks_succ (n : Nat) : ∀ P : Pr, ticks (n + 1) P = (ticks n P).step 7 0 := by
  induction n with
  | zero => intro P; rfl
  | succ n ih => intro P; exact ih (P.step 7 0)
section
variable {w0 w : World} {g x : Nat} {P : Pr} {iss : Int} {K L : Nat} {t : Int}
set_option maxHeartbeats 4000000 in
set_option maxRecDepth 100000 in
theorem all_comes (h : At2 w0 g x P w) (hG : Good P iss K L t) (hK : K ≤ 1000000) (hL : L ≤ 800) (ht : t + 300 ≤ 1099511626999) :
    Calls Try.prog 45 #[.pointer (some ⟨x, 0, none⟩)] w fun e w' => e = .returned (.tuple #[]) ∧ At2 w0 g x (allCome P) w' := by
  have c0 := h.cell_
  have HS := Lib.hid (h.flush_ (hG.fit hK hL (by omega)))
  have HG := Lib.hid hG.flush_
  have HK := Lib.hid hK; have HL := Lib.hid hL; have HT := Lib.hid ht
  clear h hG hK hL ht
  go_enter Try.func45, Try.ntmps45
  go_wp2_with fail
  refine HS.out.mono ?_
  rintro e w1 ⟨rfl, h1⟩
  have H1 := Lib.hid h1
  clear h1 HS c0
  go_wp2_with fail
  go_loopw [1] (fun s1 wr => ∃ (m : Nat) (Q : Pr), m ≤ 300 ∧ s1 = .int .i64 m ∧ Hid (At2 w0 g x Q wr ∧ drain (300 - m) Q = allCome P ∧ Good Q iss K L (t + m))) (fun s1 _ => 300 - (intOf s1).toNat)
  case atStart => exact ⟨0, P.flush, Nat.zero_le _, rfl, Lib.hid ⟨H1.out, rfl, HG.out.more (Nat.le_refl _) (Nat.le_refl _) (by omega)⟩⟩
  case round =>
    obtain ⟨m, Q, hm, rfl, HM⟩ := hrel
    have c0 := HM.out.1.cell_
    obtain ⟨col, ⟨t0, t1, tA, tc, ks, ra0, ra1, rb0, rb1, X⟩, _⟩ := HM.out.1
    obtain ⟨kn, hkn⟩ : ∃ z, ks.length = z := ⟨_, rfl⟩
    have y2 : wr.cell? ⟨g, 2, none⟩ = some (.slice tA kn tc) := by have := X.box.cell 2; rw [hkn] at this; exact this
    have HW : Hid (Q.way.length = kn) := Lib.hid (by rw [X.wpl, List.length_map, hkn])
    clear X hkn
    by_cases hlt3 : m < 300
    · by_cases hk0 : kn = 0
      · subst hk0
        have HD : Hid (allCome P = Q) := Lib.hid (HM.out.2.1.symm.trans (drain_stop (.inr (List.eq_nil_of_length_eq_zero HW.out))))
        go_wp2_with fail
        exact bodyPost_end (v := .tuple #[]) (by simp [results, Try.results45, go_sem]) rfl ⟨rfl, by rw [HD.out]; exact HM.out.1⟩
      · have HQQ := Lib.hid (HM.out.2.2.quiet HK.out HL.out (by have := HT.out; omega) 0 0 (.inl rfl))
        have HS : Hid (Calls Try.prog 43 #[.pointer (some ⟨g, 0, none⟩), .agg #[.int .i64 0, .int .i64 0]] wr fun e w' => e = .returned (.tuple #[]) ∧ At2 w0 g x (Q.step 0 0) w') := Lib.hid (HM.out.1.step_ 0 0 (by omega) HQQ.out.1)
        have HD : Hid (drain (300 - (m + 1)) (Q.step 0 0) = allCome P) := Lib.hid (by
          rw [← HM.out.2.1]
          have e : 300 - m = (300 - (m + 1)) + 1 := by omega
          rw [e, drain_go (fun h => hk0 (by rw [← HW.out, h]; rfl))])
        have hk1 : 0 < kn := by omega
        clear hk0
        go_wp2_with fail
        refine HS.out.mono ?_
        rintro e w6 ⟨rfl, h6⟩
        have H6 := Lib.hid h6
        clear h6 HS
        go_wp2_with fail
        go_roundw
        case rel => exact ⟨m + 1, Q.step 0 0, by omega, by go_num, Lib.hid ⟨H6.out, HD.out, HQQ.out.2.more (Nat.le_refl _) (Nat.le_refl _) (by omega)⟩⟩
        case measure => simp [intOf]; omega
    · have hm2 : m = 300 := by omega
      have HD : Hid (allCome P = Q) := Lib.hid (HM.out.2.1.symm.trans (drain_stop (.inl (by omega))))
      clear hm2
      go_wp2_with fail
      exact bodyPost_end (v := .tuple #[]) (by simp [results, Try.results45, go_sem]) rfl ⟨rfl, by rw [HD.out]; exact HM.out.1⟩
end
end Go.Proofs.Ytjldgialhgfhmaa
