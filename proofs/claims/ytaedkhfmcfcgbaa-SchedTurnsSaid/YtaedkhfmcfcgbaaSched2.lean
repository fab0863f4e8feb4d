/- Contracts: the document's Able, the comparison of lists, and what picks one. -/
import Derived.Test.YtaedkhfmcfcgbaaSched
namespace Go.Proofs.Ytaedkhfmcfcgbaa
open Go.ChangeShapes Go.WideShapes Go.ChangeAt Go.RowKit
set_option linter.unusedVariables false

theorem RS.cellsP {w : World} {b off c : Nat} {ps : List Pth} (h : RS layP w (some ⟨b, off, none⟩) c ps) {k : Nat} (hk : k < ps.length) : ∃ r bk s l, ps.getD k Pth.none = ⟨r, bk, s, l⟩ ∧
    w.cell? ⟨b, off + k * 4, none⟩ = some (.bool r) ∧ w.cell? ⟨b, off + k * 4 + 1, none⟩ = some (.bool bk) ∧ w.cell? ⟨b, off + k * 4 + 2, none⟩ = some (.int .i64 s) ∧ w.cell? ⟨b, off + k * 4 + 3, none⟩ = some (.int .i64 l) := by
  obtain ⟨b', off', r, bk, s, l, hp, e, hb, c0, c1, c2, c3⟩ := h.atP hk
  injection e with e
  injection e with e1 e2
  subst e1 e2
  exact ⟨r, bk, s, l, hp, c0, c1, c2, c3⟩
theorem RS.blockP {w : World} {A : Option Addr} {c : Nat} {ps : List Pth} (h : RS layP w A c ps) (hk : 0 < ps.length) : ∃ b off, A = some ⟨b, off, none⟩ ∧ b < w.heap.size := by
  obtain ⟨b, off, _, _, _, _, _, e, hb, _⟩ := h.atP hk
  exact ⟨b, off, e, hb⟩

theorem refable_any (A : Option Addr) (c : Nat) (ps : List Pth) (hm : ps.length ≤ 50) (i : Nat) (hi : i < ps.length) (w : World) (h : RS layP w A c ps) :
    Calls Try.prog 15 #[.slice A ps.length c, .int .i64 i] w fun e w' => e = .returned (.bool (okAt ps i)) ∧ Fine w w' := by
  obtain ⟨b, off, rfl, hb⟩ := h.blockP (by omega)
  obtain ⟨r, bk, s, l, hp, c0, c1, c2, c3⟩ := h.cellsP hi
  have hok : Hid (okAt ps i = Pth.able (others ps) ⟨r, bk, s, l⟩) := by show okAt ps i = _; unfold okAt; rw [hp]
  clear hp
  cases r
  · have HO : Hid (okAt ps i = false) := hok.out.trans (able_no (.inl rfl))
    go_enter Try.func15, Try.ntmps15
    go_wp2_with fail
    go_ret
    exact ⟨ret_bool HO.out.symm, (by repeat (first | exact Fine.refl _ | assumption | refine Fine.alloc ?_ _ | refine Fine.drew ?_ | refine Fine.drewN ?_ _ | refine Fine.trans ?_ (by assumption) | (refine Fine.kept ?_ (by assumption) (by intro x hx; first | omega | (simp; omega))) | (refine Fine.setCell ?_ (by first | assumption | (simp; omega)) _)))⟩
  · by_cases hl : 4 ≤ l
    · have HO : Hid (okAt ps i = false) := hok.out.trans (able_no (.inr (.inl hl)))
      go_enter Try.func15, Try.ntmps15
      go_wp2_with fail
      go_ret
      exact ⟨ret_bool HO.out.symm, (by repeat (first | exact Fine.refl _ | assumption | refine Fine.alloc ?_ _ | refine Fine.drew ?_ | refine Fine.drewN ?_ _ | refine Fine.trans ?_ (by assumption) | (refine Fine.kept ?_ (by assumption) (by intro x hx; first | omega | (simp; omega))) | (refine Fine.setCell ?_ (by first | assumption | (simp; omega)) _)))⟩
    · have hl' : l < 4 := by omega
      clear hl
      cases bk
      · have HO : Hid (okAt ps i = true) := hok.out.trans (able_yes rfl hl' (.inr rfl))
        go_enter Try.func15, Try.ntmps15
        go_wp2_with fail
        go_loopw [5] (fun i wr => ∃ k : Nat, k ≤ ps.length ∧ i = .int .i64 k ∧ Fine w wr) (fun i _ => ps.length - (intOf i).toNat)
        case atStart => exact ⟨0, Nat.zero_le _, rfl, (by repeat (first | exact Fine.refl _ | assumption | refine Fine.alloc ?_ _ | refine Fine.drew ?_ | refine Fine.drewN ?_ _ | refine Fine.trans ?_ (by assumption) | (refine Fine.kept ?_ (by assumption) (by intro x hx; first | omega | (simp; omega))) | (refine Fine.setCell ?_ (by first | assumption | (simp; omega)) _)))⟩
        case round =>
          obtain ⟨k, hk, rfl, hf⟩ := hrel
          have d0 := (hf.cell (p := ⟨b, off + i * 4 + 1, none⟩) hb).trans c1
          by_cases hlt : k < ps.length
          · go_wp2_with fail
            go_roundw
            case rel => exact ⟨k + 1, by omega, by go_num, (by repeat (first | exact Fine.refl _ | assumption | refine Fine.alloc ?_ _ | refine Fine.drew ?_ | refine Fine.drewN ?_ _ | refine Fine.trans ?_ (by assumption) | (refine Fine.kept ?_ (by assumption) (by intro x hx; first | omega | (simp; omega))) | (refine Fine.setCell ?_ (by first | assumption | (simp; omega)) _)))⟩
            case measure => simp [intOf]; omega
          · go_wp2_with fail
            go_ret
            exact ⟨ret_bool HO.out.symm, (by repeat (first | exact Fine.refl _ | assumption | refine Fine.alloc ?_ _ | refine Fine.drew ?_ | refine Fine.drewN ?_ _ | refine Fine.trans ?_ (by assumption) | (refine Fine.kept ?_ (by assumption) (by intro x hx; first | omega | (simp; omega))) | (refine Fine.setCell ?_ (by first | assumption | (simp; omega)) _)))⟩
      · go_enter Try.func15, Try.ntmps15
        go_wp2_with fail
        go_loopw [5] (fun i wr => ∃ k : Nat, k ≤ ps.length ∧ i = .int .i64 k ∧ (∀ j, j < k → (ps.getD j Pth.none).main = false) ∧ Fine w wr) (fun i _ => ps.length - (intOf i).toNat)
        case atStart => exact ⟨0, Nat.zero_le _, rfl, fun j hj => absurd hj (by omega), (by repeat (first | exact Fine.refl _ | assumption | refine Fine.alloc ?_ _ | refine Fine.drew ?_ | refine Fine.drewN ?_ _ | refine Fine.trans ?_ (by assumption) | (refine Fine.kept ?_ (by assumption) (by intro x hx; first | omega | (simp; omega))) | (refine Fine.setCell ?_ (by first | assumption | (simp; omega)) _)))⟩
        case round =>
          obtain ⟨k, hk, rfl, hno0, hf⟩ := hrel
          have hno := Lib.hid hno0; clear hno0
          have d0 := (hf.cell (p := ⟨b, off + i * 4 + 1, none⟩) hb).trans c1
          by_cases hlt : k < ps.length
          · obtain ⟨r', bk', s', l', hp0, e0, e1, _, _⟩ := (h.fine hf).cellsP hlt
            have hp := Lib.hid hp0; clear hp0
            cases r' <;> cases bk'
            all_goals go_wp2_with fail
            · go_roundw
              case rel => exact ⟨k + 1, by omega, by go_num, (fun j hj => by
                by_cases e : j = k
                · subst e; rw [hp.out]; rfl
                · exact hno.out j (by omega)), (by repeat (first | exact Fine.refl _ | assumption | refine Fine.alloc ?_ _ | refine Fine.drew ?_ | refine Fine.drewN ?_ _ | refine Fine.trans ?_ (by assumption) | (refine Fine.kept ?_ (by assumption) (by intro x hx; first | omega | (simp; omega))) | (refine Fine.setCell ?_ (by first | assumption | (simp; omega)) _)))⟩
              case measure => simp [intOf]; omega
            · go_roundw
              case rel => exact ⟨k + 1, by omega, by go_num, (fun j hj => by
                by_cases e : j = k
                · subst e; rw [hp.out]; rfl
                · exact hno.out j (by omega)), (by repeat (first | exact Fine.refl _ | assumption | refine Fine.alloc ?_ _ | refine Fine.drew ?_ | refine Fine.drewN ?_ _ | refine Fine.trans ?_ (by assumption) | (refine Fine.kept ?_ (by assumption) (by intro x hx; first | omega | (simp; omega))) | (refine Fine.setCell ?_ (by first | assumption | (simp; omega)) _)))⟩
              case measure => simp [intOf]; omega
            · go_ret
              exact ⟨ret_bool (by rw [hok.out, others_yes hlt (by rw [hp.out]; rfl)]; simp [Pth.able]), (by repeat (first | exact Fine.refl _ | assumption | refine Fine.alloc ?_ _ | refine Fine.drew ?_ | refine Fine.drewN ?_ _ | refine Fine.trans ?_ (by assumption) | (refine Fine.kept ?_ (by assumption) (by intro x hx; first | omega | (simp; omega))) | (refine Fine.setCell ?_ (by first | assumption | (simp; omega)) _)))⟩
            · go_roundw
              case rel => exact ⟨k + 1, by omega, by go_num, (fun j hj => by
                by_cases e : j = k
                · subst e; rw [hp.out]; rfl
                · exact hno.out j (by omega)), (by repeat (first | exact Fine.refl _ | assumption | refine Fine.alloc ?_ _ | refine Fine.drew ?_ | refine Fine.drewN ?_ _ | refine Fine.trans ?_ (by assumption) | (refine Fine.kept ?_ (by assumption) (by intro x hx; first | omega | (simp; omega))) | (refine Fine.setCell ?_ (by first | assumption | (simp; omega)) _)))⟩
              case measure => simp [intOf]; omega
          · have he := Lib.hid (show k = ps.length by omega)
            go_wp2_with fail
            go_ret
            exact ⟨ret_bool (by rw [hok.out, others_no (fun j hj => hno.out j (by have := he.out; omega))]; simp [Pth.able, hl']), (by repeat (first | exact Fine.refl _ | assumption | refine Fine.alloc ?_ _ | refine Fine.drew ?_ | refine Fine.drewN ?_ _ | refine Fine.trans ?_ (by assumption) | (refine Fine.kept ?_ (by assumption) (by intro x hx; first | omega | (simp; omega))) | (refine Fine.setCell ?_ (by first | assumption | (simp; omega)) _)))⟩

theorem refAble_any (A : Option Addr) (c : Nat) (ps : List Pth) (hm : ps.length ≤ 50) (w : World) (h : RS layP w A c ps) : Calls Try.prog 10 #[.slice A ps.length c] w (AbleOf (ables ps ps.length) w) := by
  go_enter Try.func10, Try.ntmps10
  go_wp2_with fail
  go_loopw [3, 4] (fun out i wr => ∃ k : Nat, k ≤ ps.length ∧ i = .int .i64 k ∧ (∃ A' c', out = .slice A' (ables ps k).length c' ∧ Own LI 3 wr w.heap.size (.slice A' (ables ps k).length c') (ables ps k)) ∧ Fine w wr) (fun _ i _ => ps.length - (intOf i).toNat)
  case atStart => exact ⟨0, Nat.zero_le _, rfl, ⟨none, 0, rfl, Own.nil_ _ _ _ _⟩, (by repeat (first | exact Fine.refl _ | assumption | refine Fine.alloc ?_ _ | refine Fine.drew ?_ | refine Fine.drewN ?_ _ | refine Fine.trans ?_ (by assumption) | (refine Fine.kept ?_ (by assumption) (by intro x hx; first | omega | (simp; omega))) | (refine Fine.setCell ?_ (by first | assumption | (simp; omega)) _)))⟩
  case round =>
    obtain ⟨k, hk, rfl, ⟨A', c', rfl, hown0⟩, hf⟩ := hrel
    have hown := Lib.hid hown0; clear hown0
    have hsz := hf.size
    have hal := ables_le ps k
    by_cases hlt : k < ps.length
    · go_wp2_with fail
      refine (refable_any A c ps hm k hlt _ (h.fine hf)).mono ?_; rintro e w1 ⟨rfl, f1⟩
      have hs1 := f1.size
      cases hok : okAt ps k
      · have HST := Lib.hid (ables_no hok); clear hok
        go_wp2_with fail
        go_roundw
        case rel => exact ⟨k + 1, by omega, by go_num, ⟨A', c', by rw [HST.out], by rw [HST.out]; exact hown.out.fine f1⟩, (by repeat (first | exact Fine.refl _ | assumption | refine Fine.alloc ?_ _ | refine Fine.drew ?_ | refine Fine.drewN ?_ _ | refine Fine.trans ?_ (by assumption) | (refine Fine.kept ?_ (by assumption) (by intro x hx; first | omega | (simp; omega))) | (refine Fine.setCell ?_ (by first | assumption | (simp; omega)) _)))⟩
        case measure => simp [intOf]; omega
      · have HST := Lib.hid (ables_yes hok); clear hok
        go_wp2_with (at_builtin; refine wpList_appE rfl sliceI (.tmp 14) (.tmp 16) rfl w.heap.size _ (ables ps k) rfl ((hown.out.fine f1).alloc _) (some ⟨w1.heap.size, 0, none⟩) 1 1 [(k : Int)] rfl rfl (RS.ofBlk (Blk.newAt (by simp)) rfl rfl (by unfold maxLen; omega)) ?_ ?_ ?_ ?_)
        · (first | omega | (unfold maxLen; omega) | (simp; omega) | (simp; unfold maxLen; omega))
        · (first | omega | (unfold maxLen; omega) | (simp; omega) | (simp; unfold maxLen; omega))
        · (first | omega | (unfold maxLen; omega) | (simp; omega) | (simp; unfold maxLen; omega))
        · intro A2 c2' w2 hown2 hk2 _
          go_wp2_with fail
          go_roundw
          case rel => exact ⟨k + 1, by omega, by go_num, ⟨A2, c2', by rw [HST.out]; simp, by rw [HST.out]; simpa using hown2.out⟩, Fine.kept (a := w) (by repeat (first | exact Fine.refl _ | assumption | refine Fine.alloc ?_ _ | refine Fine.drew ?_ | refine Fine.drewN ?_ _ | refine Fine.trans ?_ (by assumption) | (refine Fine.kept ?_ (by assumption) (by intro x hx; first | omega | (simp; omega))) | (refine Fine.setCell ?_ (by first | assumption | (simp; omega)) _))) hk2 (by intro x hx; omega)⟩
          case measure => simp [intOf]; omega
    · have he := Lib.hid (show k = ps.length by omega)
      go_wp2_with fail
      go_ret
      exact ⟨A', c', by rw [← he.out]; rfl, by rw [← he.out]; exact hown.out, (by repeat (first | exact Fine.refl _ | assumption | refine Fine.alloc ?_ _ | refine Fine.drew ?_ | refine Fine.drewN ?_ _ | refine Fine.trans ?_ (by assumption) | (refine Fine.kept ?_ (by assumption) (by intro x hx; first | omega | (simp; omega))) | (refine Fine.setCell ?_ (by first | assumption | (simp; omega)) _)))⟩
end Go.Proofs.Ytaedkhfmcfcgbaa
