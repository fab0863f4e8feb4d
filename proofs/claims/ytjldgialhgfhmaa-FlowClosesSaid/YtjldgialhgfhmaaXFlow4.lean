/- A flow: Kill. -/
import Derived.Test.YtjldgialhgfhmaaXFlow3
namespace Go.Proofs.Ytjldgialhgfhmaa
set_option linter.unusedVariables false
set_option linter.unusedSimpArgs false
open Go.ChangeShapes Go.WideShapes Go.ChangeAt Go.RowKit Go.Maps
set_option linter.unusedVariables false
set_option linter.unusedSimpArgs false
section
variable {F : Nat → Prop} {w : World} {f : Nat} {S : Fl}
def Fl.dead (S : Fl) : Fl := { S with st := 11, at_ := 0, has := false }
def Fl.kill (S : Fl) : Fl := if 10 ≤ S.st then S else if 2 ≤ S.st ∧ S.st ≤ 8 then ({ S with out := S.out ++ [S.telling true] } : Fl).dead else S.dead
theorem dead_any {w0 : World} {F0 : Nat → Prop} (h : FlS F w f S) (k0 : Kept F0 w0 w) (hF : ∀ b, F b → F0 b ∨ w0.heap.size ≤ b) : Calls Try.prog 74 #[.pointer (some ⟨f, 0, none⟩)] w fun e w' => e = .returned (.tuple #[]) ∧ FlOf F0 f S.dead w0 w' := by
  obtain ⟨q, A, c, ros, Q, D, hX⟩ := h
  refine (fdead_any hX.box).mono ?_
  rintro e w' ⟨h1, h2, h3⟩
  refine ⟨h1, F, ⟨q, A, c, ros, Q, D, hX.turned (S' := S.dead) h2 h3 rfl rfl rfl⟩, k0.transG h3 (fun _ _ h => h) (fun y hy e => ?_), hF⟩
  have e : y = f := e
  subst e
  exact (hF _ hX.ff).elim id (fun h => by omega)
theorem over_same (h : FlS F w f S) : Calls Try.prog 73 #[.pointer (some ⟨f, 0, none⟩)] w fun e w' => e = .returned (.bool (decide (10 ≤ S.st))) ∧ Fine w w' := by
  obtain ⟨q, A, c, ros, Q, D, hX⟩ := h
  exact fover_any hX.box
set_option maxHeartbeats 4000000 in
set_option maxRecDepth 20000 in
theorem fkill_any (hn : S.out.length ≤ 100000) (h : FlS F w f S) : Calls Try.prog 52 #[.pointer (some ⟨f, 0, none⟩)] w fun e w' => e = .returned (.tuple #[]) ∧ FlOf F f S.kill w w' := by
  have HOV := Lib.hid (over_same h)
  have HS := Lib.hid h
  obtain ⟨q, A, c, ros, Q, D, hX⟩ := h
  have H := Lib.hid hX
  obtain ⟨n, hn'⟩ : ∃ n, ros.length = n := ⟨_, rfl⟩
  have HN := Lib.hid hn'
  have hnb : n ≤ 100000 := by rw [← hn', hX.outs.1]; exact hn
  obtain ⟨e, he⟩ : ∃ z, S.e = z := ⟨_, rfl⟩
  obtain ⟨rcv, hrcv⟩ : ∃ z, S.rcv = z := ⟨_, rfl⟩
  have HE := Lib.hid he; have HR := Lib.hid hrcv
  obtain ⟨st, hst⟩ : ∃ z, S.st = z := ⟨_, rfl⟩
  rw [hst] at HOV
  have HST := Lib.hid hst
  clear hX hn hn' he hrcv hst
  by_cases h1 : 10 ≤ st
  · have HK : Hid (S.kill = S) := Lib.hid (by unfold Fl.kill; rw [if_pos (by rw [HST.out]; exact h1)])
    rw [decide_eq_true h1] at HOV
    rw [HK.out]
    go_enter Try.func52, Try.ntmps52
    go_wp2_with fail
    refine HOV.out.mono ?_
    rintro x w1 ⟨rfl, f1⟩
    have F1 := Lib.hid f1
    clear f1
    go_wp2_with fail
    exact bodyPost_ret (results_none rfl _ _ _) rfl ⟨rfl, F, HS.out.fine F1.out, Kept.of_fine F1.out, fun b hb => .inl hb⟩
  · rw [decide_eq_false h1] at HOV
    by_cases h2 : 2 ≤ st ∧ st ≤ 8
    · have HK : Hid (S.kill = ({ S with out := S.out ++ [S.telling true] } : Fl).dead) := Lib.hid (by unfold Fl.kill; rw [HST.out, if_neg h1, if_pos h2])
      rw [HK.out]
      have g1 : decide (2 ≤ st) = true := decide_eq_true h2.1
      have g2 : decide (st ≤ 8) = true := decide_eq_true h2.2
      have g3 : st ≥ 2 := h2.1
      go_enter Try.func52, Try.ntmps52
      go_wp2_with fail
      refine HOV.out.mono ?_
      rintro x wx ⟨rfl, f1⟩
      have HXX := Lib.hid (H.out.fine f1); have F1 := Lib.hid f1
      have c5 : wx.cell? ⟨f, 5, none⟩ = some (.int .i64 st) := by have := HXX.out.box.cell 5; rw [HST.out] at this; exact this
      clear f1
      go_upto_region 2 with fail
      clear c5 g1 g2 g3 h1 h2
      go_cut [] (fun wc => Hid (FlOf F f { S with out := S.out ++ [S.telling true] } wx wc))
      case first =>
        have c12 : wx.cell? ⟨f, 12, none⟩ = some (.slice A n c) := by have := HXX.out.box.cell 12; rw [HN.out] at this; exact this
        have c0 : wx.cell? ⟨f, 0, none⟩ = some (.pointer (some ⟨q, 0, none⟩)) := HXX.out.box.cell 0
        have c6 : wx.cell? ⟨f, 6, none⟩ = some (.int .u32 rcv) := by have := HXX.out.box.cell 6; rw [HR.out] at this; exact this
        have QE := Lib.hid (by have := end_same q Q S.ps S.e wx.drew (HXX.out.que.fine (Fine.refl wx).drew); rw [HE.out] at this; exact this : Calls Try.prog 33 #[.pointer (some ⟨q, 0, none⟩)] wx.drew fun x w' => x = .returned (.int .u32 e) ∧ wx.drew = w')
        have HEL : Hid ((ros ++ [(⟨⟨e, false, false, none, 0, 0, 0, false⟩, rcv, true, true⟩ : Ro)]).length = n + 1) := Lib.hid (by rw [List.length_append, HN.out]; rfl)
        have fa0 : Fine wx (wx.drew.alloc (.cells (⟨⟨e, false, false, none, 0, 0, 0, false⟩, rcv, true, true⟩ : Ro).cells.toArray 94)) := (Fine.refl wx).drew.alloc _
        have e12 : ∀ o, (wx.alloc o).cell? ⟨f, 12, none⟩ = some (.slice A n c) := fun o => by have := (HXX.out.box.fine ((Fine.refl wx).alloc o)).cell 12; rw [HN.out] at this; exact this
        have z12 : ∀ o, (wx.alloc o).frozen? ⟨f, 12, none⟩ = false := fun o => (HXX.out.box.fine ((Fine.refl wx).alloc o)).frozen 12
        go_region_law (first | (go_simp; go_at_call 33; refine QE.out.mono ?_; rintro x wE ⟨rfl, rfl⟩) | (refine step_appE rfl sliceO (.tmp 20) (.tmp 32) rfl 0 (.slice A n c) ros rfl (by have := (HXX.out.fine ((Fine.refl wx).drew.alloc (.cells (⟨⟨e, false, false, none, 0, 0, 0, false⟩, rcv, true, true⟩ : Ro).cells.toArray 94))).row; rw [HN.out] at this; exact this) (some ⟨wx.heap.size, 0, none⟩) 1 1 [(⟨⟨e, false, false, none, 0, 0, 0, false⟩, rcv, true, true⟩ : Ro)] rfl rfl (RS.ofBlk (Blk.newAt rfl) rfl rfl (by unfold maxLen; omega)) (by rw [HN.out]; simp; omega) (by rw [HN.out]; simp; unfold maxLen; omega) (Nat.zero_le _) ?_; intro x2 wB oB kB0 gB0 bB; obtain ⟨A3, c3, hx2, _, _⟩ := oB.form; rw [HEL.out] at hx2; subst hx2; have XA := HXX.out.fine ((Fine.refl wx).drew.alloc (.cells (⟨⟨e, false, false, none, 0, 0, 0, false⟩, rcv, true, true⟩ : Ro).cells.toArray 94)); have KB : Kept (fun y => (Value.slice A ros.length c).ownBlock = some y) (wx.drew.alloc (.cells (⟨⟨e, false, false, none, 0, 0, 0, false⟩, rcv, true, true⟩ : Ro).cells.toArray 94)) wB := (by rw [HN.out]; exact Kept.grown (Kept.refl _ _) gB0 (fun k hk _ => hk)); have BB := XA.box.kept KB (fun e => XA.nf f e rfl); have yB0 := BB.cell 12; have yB1 := BB.frozen 12))
        all_goals
          have JJ := Lib.hid (HXX.out.came fa0 KB HEL.out.symm oB bB (Nat.le_refl _) (by rw [← HE.out, ← HR.out]; exact ⟨⟨rfl, rfl, rfl, rfl, rfl, rfl, RS.nil_ _ _, fun b off e => by cases e⟩, rfl, rfl, rfl⟩ : IsO _ (fun _ => False) (⟨⟨e, false, false, none, 0, 0, 0, false⟩, rcv, true, true⟩ : Ro) (S.telling true)))
          clear oB gB0 kB0 bB KB BB XA yB0 yB1
          go_wp2_with fail
          go_meet
          exact Lib.hid JJ.out
      case rest =>
        obtain ⟨F2, j1, j2, j3⟩ := hcut.out
        have HD := Lib.hid (dead_any j1 ((Kept.of_fine F1.out).trans j2) (fun b hb => (j3 b hb).imp id (fun h => Nat.le_trans F1.out.size h)))
        clear j1 j2 j3 hcut
        go_wp2_with fail
        refine HD.out.mono ?_
        rintro x w2 ⟨rfl, h9⟩
        have H9 := Lib.hid h9
        clear h9
        go_wp2_with fail
        exact bodyPost_end (v := .tuple #[]) (by simp [results, Try.results52, go_sem]) rfl ⟨rfl, H9.out⟩
    · have HK : Hid (S.kill = S.dead) := Lib.hid (by unfold Fl.kill; rw [HST.out, if_neg h1, if_neg h2])
      rw [HK.out]
      have key : ∀ Kk : Prop, (¬ st ≥ 2 → decide (2 ≤ st) = false → Kk) → (st ≥ 2 → decide (2 ≤ st) = true → decide (st ≤ 8) = false → Kk) → Kk := fun Kk a b => by
        by_cases h5 : 2 ≤ st
        · exact b h5 (decide_eq_true h5) (decide_eq_false (fun h6 => h2 ⟨h5, h6⟩))
        · exact a h5 (decide_eq_false h5)
      refine key _ (fun g1 g2 => ?_) (fun g1 g2 g3 => ?_)
      all_goals
        clear key h2
        go_enter Try.func52, Try.ntmps52
        go_wp2_with fail
        refine HOV.out.mono ?_
        rintro x wx ⟨rfl, f1⟩
        have c5 : wx.cell? ⟨f, 5, none⟩ = some (.int .i64 st) := by have := (H.out.fine f1).box.cell 5; rw [HST.out] at this; exact this
        have HD := Lib.hid (dead_any (HS.out.fine f1) (Kept.of_fine f1) (fun b hb => .inl hb))
        clear f1
        go_wp2_with fail
        refine HD.out.mono ?_
        rintro x w2 ⟨rfl, h9⟩
        have H9 := Lib.hid h9
        clear h9
        go_wp2_with fail
        exact bodyPost_end (v := .tuple #[]) (by simp [results, Try.results52, go_sem]) rfl ⟨rfl, H9.out⟩
end
end Go.Proofs.Ytjldgialhgfhmaa
