/- Contracts of package sched's functions, and of the document's. -/
import Derived.Test.YtaedkhfmcfcgbaaRows
import Derived.Test.YtaedkhfmcfcgbaaPaths
import Derived.WalkKit
import Derived.ProofKit
import Derived.OpenShut
import Derived.RegionTactic
import Derived.BigRegion
import Derived.BigQuiet
import Derived.Deep.QuietTactic
import Derived.WalkLawsBesides
import Derived.LoopTactic
import Derived.Outline
namespace Go.Proofs.Ytaedkhfmcfcgbaa
open Go.ChangeShapes Go.WideShapes Go.ChangeAt Go.RowKit
set_option linter.unusedVariables false

/-- The closure: is it ready, and no backup? -/
theorem main_any (r b : Bool) (s l : Int) (w : World) : Calls Try.prog 14 #[.agg #[.bool r, .bool b, .int .i64 s, .int .i64 l]] w fun e w' => e = .returned (.bool (Pth.main ⟨r, b, s, l⟩)) ∧ Fine w w' := by
  cases r <;> cases b
  all_goals
    go_enter Try.func14, Try.ntmps14
    go_wp2
    go_ret
    exact ⟨rfl, (by repeat (first | exact Fine.refl _ | assumption | refine Fine.alloc ?_ _ | refine Fine.drew ?_ | refine Fine.drewN ?_ _ | refine Fine.trans ?_ (by assumption) | (refine Fine.kept ?_ (by assumption) (by intro x hx; first | omega | (simp; omega))) | (refine Fine.setCell ?_ (by first | assumption | (simp; omega)) _)))⟩
def IdxOf (o : Bool) (w : World) (e : Ending) (w' : World) : Prop := ∃ n : Int, e = .returned (.int .i64 n) ∧ decide (0 ≤ n) = o ∧ Fine w w'
theorem idx_any (A : Option Addr) (c : Nat) (ps : List Pth) (hm : ps.length ≤ maxLen) (w : World) (h : RS layP w A c ps) : Calls Try.prog 19 #[.slice A ps.length c, .func (.func 14) #[] #[]] w (IdxOf (others ps) w) := by
  unfold maxLen at hm
  go_enter Try.func19, Try.ntmps19
  go_wp2_with fail
  go_loopw [8] (fun i wr => ∃ k : Nat, k ≤ ps.length ∧ i = .int .i64 k ∧ (∀ j, j < k → (ps.getD j Pth.none).main = false) ∧ Fine w wr) (fun i _ => ps.length - (intOf i).toNat)
  case atStart => exact ⟨0, Nat.zero_le _, rfl, fun j hj => absurd hj (by omega), Fine.refl _⟩
  case round =>
    obtain ⟨k, hk, rfl, hno0, hf⟩ := hrel
    have hno := Lib.hid hno0; clear hno0
    by_cases hlt : k < ps.length
    · obtain ⟨b, off, r, bk, s, l, hp0, rfl, hb, c0, c1, c2, c3⟩ := (h.fine hf).atP hlt
      have hp := Lib.hid hp0; clear hp0
      go_wp2_with fail
      refine (main_any _ _ _ _ _).mono ?_; rintro e w1 ⟨rfl, f1⟩
      go_wp2_with fail
      · go_ret
        exact ⟨k, rfl, by rw [others_yes hlt (by rw [hp.out]; assumption)]; simp, (by repeat (first | exact Fine.refl _ | assumption | refine Fine.alloc ?_ _ | refine Fine.drew ?_ | refine Fine.drewN ?_ _ | refine Fine.trans ?_ (by assumption) | (refine Fine.kept ?_ (by assumption) (by intro x hx; first | omega | (simp; omega))) | (refine Fine.setCell ?_ (by first | assumption | (simp; omega)) _)))⟩
      · refine ⟨⟨k + 1, by omega, by go_num, fun j hj => ?_, (by repeat (first | exact Fine.refl _ | assumption | refine Fine.alloc ?_ _ | refine Fine.drew ?_ | refine Fine.drewN ?_ _ | refine Fine.trans ?_ (by assumption) | (refine Fine.kept ?_ (by assumption) (by intro x hx; first | omega | (simp; omega))) | (refine Fine.setCell ?_ (by first | assumption | (simp; omega)) _)))⟩, by simp [intOf]; omega⟩
        by_cases e : j = k
        · subst e; rw [hp.out]; assumption
        · exact hno.out j (by omega)
    · have he : k = ps.length := by omega
      have he := Lib.hid he
      go_wp2_with fail
      go_ret
      exact ⟨-1, rfl, by rw [others_no (fun j hj => hno.out j (by have := he.out; omega))]; rfl, (by repeat (first | exact Fine.refl _ | assumption | refine Fine.alloc ?_ _ | refine Fine.drew ?_ | refine Fine.drewN ?_ _ | refine Fine.trans ?_ (by assumption) | (refine Fine.kept ?_ (by assumption) (by intro x hx; first | omega | (simp; omega))) | (refine Fine.setCell ?_ (by first | assumption | (simp; omega)) _)))⟩
theorem contains_any (A : Option Addr) (c : Nat) (ps : List Pth) (hm : ps.length ≤ maxLen) (w : World) (h : RS layP w A c ps) : Calls Try.prog 13 #[.slice A ps.length c, .func (.func 14) #[] #[]] w fun e w' => e = .returned (.bool (others ps)) ∧ Fine w w' := by
  go_enter Try.func13, Try.ntmps13
  go_wp2_with fail
  refine (idx_any A c ps hm w h).mono ?_; rintro e w1 ⟨n, rfl, hn, f1⟩
  have HN := Lib.hid hn; clear hn
  go_wp2
  go_ret
  exact ⟨by rw [HN.out]; rfl, f1⟩

theorem sliceI : SliceTy Try.prog 25 3 1 8 := SliceTy.mk' Try.underlying25 (z := .int .i64 0) (by kernel_rfl) rfl
abbrev LI := layI .i64
theorem able_yes {o r bk : Bool} {s l : Int} (h1 : r = true) (h2 : l < 4) (h3 : o = false ∨ bk = false) : Pth.able o ⟨r, bk, s, l⟩ = true := by
  subst h1
  rcases h3 with rfl | rfl <;> simp [Pth.able, h2]
theorem able_no {o r bk : Bool} {s l : Int} (h : r = false ∨ 4 ≤ l ∨ (o = true ∧ bk = true)) : Pth.able o ⟨r, bk, s, l⟩ = false := by
  rcases h with rfl | h | ⟨rfl, rfl⟩
  · simp [Pth.able]
  · simp [Pth.able, show ¬ l < 4 by omega]
  · simp [Pth.able]
theorem able_cases (o r bk : Bool) (l : Int) : r = false ∨ (r = true ∧ 4 ≤ l) ∨ (r = true ∧ l < 4 ∧ o = false) ∨ (r = true ∧ l < 4 ∧ o = true ∧ bk = false) ∨ (r = true ∧ l < 4 ∧ o = true ∧ bk = true) := by
  cases r <;> cases o <;> cases bk <;> simp <;> omega
def AbleOf (xs : List Int) (w : World) (e : Ending) (w' : World) : Prop := ∃ A c, e = .returned (.slice A xs.length c) ∧ Own LI 3 w' w.heap.size (.slice A xs.length c) xs ∧ Fine w w'
theorem able_any (A : Option Addr) (c : Nat) (ps : List Pth) (hm : ps.length ≤ 50) (w : World) (h : RS layP w A c ps) : Calls Try.prog 9 #[.slice A ps.length c] w (AbleOf (ables ps ps.length) w) := by
  go_enter Try.func9, Try.ntmps9
  go_wp2_with fail
  refine (contains_any A c ps (by unfold maxLen; omega) w h).mono ?_; rintro e w1 ⟨rfl, f1⟩
  obtain ⟨o, ho0⟩ : ∃ o, others ps = o := ⟨_, rfl⟩
  rw [ho0]
  have ho := Lib.hid ho0; clear ho0
  have hs1 := f1.size
  cases o
  · go_wp2_with fail
    go_loopw [4, 12] (fun out i wr => ∃ k : Nat, k ≤ ps.length ∧ i = .int .i64 k ∧ (∃ A' c', out = .slice A' (ables ps k).length c' ∧ Own LI 3 wr w.heap.size (.slice A' (ables ps k).length c') (ables ps k)) ∧ Fine w wr) (fun _ i _ => ps.length - (intOf i).toNat)
    case atStart => exact ⟨0, Nat.zero_le _, rfl, ⟨none, 0, rfl, Own.nil_ _ _ _ _⟩, f1⟩
    case round =>
      obtain ⟨k, hk, rfl, ⟨A', c', rfl, hown0⟩, hf⟩ := hrel
      have hown := Lib.hid hown0; clear hown0
      have hsz := hf.size
      have hal := ables_le ps k
      by_cases hlt : k < ps.length
      · obtain ⟨b, off, r, bk, s, l, hp0, rfl, hb, c0, c1, c2, c3⟩ := (h.fine hf).atP hlt
        have hok : Hid (okAt ps k = Pth.able false ⟨r, bk, s, l⟩) := by show okAt ps k = _; unfold okAt; rw [ho.out, hp0]
        clear hp0
        rcases able_cases false r bk l with h1 | ⟨h1, h2⟩ | ⟨h1, h2, h3⟩ | ⟨h1, h2, h3, h4⟩ | ⟨h1, h2, h3, h4⟩
        · subst h1
          have hst := ables_no (hok.out.trans (able_no (.inl rfl)))
          have HST := Lib.hid hst; clear hst
          go_wp2_with fail
          go_roundw
          case rel => exact ⟨k + 1, by omega, by go_num, ⟨A', c', by rw [HST.out], by rw [HST.out]; exact hown.out.fine (by repeat (first | exact Fine.refl _ | assumption | refine Fine.alloc ?_ _ | refine Fine.drew ?_ | refine Fine.drewN ?_ _ | refine Fine.trans ?_ (by assumption) | (refine Fine.kept ?_ (by assumption) (by intro x hx; first | omega | (simp; omega))) | (refine Fine.setCell ?_ (by first | assumption | (simp; omega)) _)))⟩, (by repeat (first | exact Fine.refl _ | assumption | refine Fine.alloc ?_ _ | refine Fine.drew ?_ | refine Fine.drewN ?_ _ | refine Fine.trans ?_ (by assumption) | (refine Fine.kept ?_ (by assumption) (by intro x hx; first | omega | (simp; omega))) | (refine Fine.setCell ?_ (by first | assumption | (simp; omega)) _)))⟩
          case measure => simp [intOf]; omega
        · subst h1
          have hst := ables_no (hok.out.trans (able_no (.inr (.inl h2))))
          have HST := Lib.hid hst; clear hst
          go_wp2_with fail
          go_roundw
          case rel => exact ⟨k + 1, by omega, by go_num, ⟨A', c', by rw [HST.out], by rw [HST.out]; exact hown.out.fine (by repeat (first | exact Fine.refl _ | assumption | refine Fine.alloc ?_ _ | refine Fine.drew ?_ | refine Fine.drewN ?_ _ | refine Fine.trans ?_ (by assumption) | (refine Fine.kept ?_ (by assumption) (by intro x hx; first | omega | (simp; omega))) | (refine Fine.setCell ?_ (by first | assumption | (simp; omega)) _)))⟩, (by repeat (first | exact Fine.refl _ | assumption | refine Fine.alloc ?_ _ | refine Fine.drew ?_ | refine Fine.drewN ?_ _ | refine Fine.trans ?_ (by assumption) | (refine Fine.kept ?_ (by assumption) (by intro x hx; first | omega | (simp; omega))) | (refine Fine.setCell ?_ (by first | assumption | (simp; omega)) _)))⟩
          case measure => simp [intOf]; omega
        · subst h1
          have hst := ables_yes (hok.out.trans (able_yes rfl (by omega) (.inl rfl)))
          have HST := Lib.hid hst; clear hst
          go_wp2_with (at_builtin; refine wpList_appE rfl sliceI (.tmp 32) (.tmp 34) rfl w.heap.size _ (ables ps k) rfl ((hown.out.alloc _).alloc _) (some ⟨wr.heap.size + 1, 0, none⟩) 1 1 [(k : Int)] rfl rfl (RS.ofBlk (Blk.newAt (by simp)) rfl rfl (by unfold maxLen; omega)) ?_ ?_ ?_ ?_)
          · (first | omega | (unfold maxLen; omega) | (simp; omega) | (simp; unfold maxLen; omega))
          · (first | omega | (unfold maxLen; omega) | (simp; omega) | (simp; unfold maxLen; omega))
          · (first | omega | (unfold maxLen; omega) | (simp; omega) | (simp; unfold maxLen; omega))
          · intro A2 c2' w2 hown2 hk2 _
            go_wp2_with fail
            go_roundw
            case rel => exact ⟨k + 1, by omega, by go_num, ⟨A2, c2', by rw [HST.out]; simp, by rw [HST.out]; simpa using hown2.out⟩, Fine.kept (a := w) (by repeat (first | exact Fine.refl _ | assumption | refine Fine.alloc ?_ _ | refine Fine.drew ?_ | refine Fine.drewN ?_ _ | refine Fine.trans ?_ (by assumption) | (refine Fine.kept ?_ (by assumption) (by intro x hx; first | omega | (simp; omega))) | (refine Fine.setCell ?_ (by first | assumption | (simp; omega)) _))) hk2 (by intro x hx; omega)⟩
            case measure => simp [intOf]; omega
        · cases h3
        · cases h3
      · have he := Lib.hid (show k = ps.length by omega)
        go_wp2_with fail
        go_ret
        exact ⟨A', c', by rw [← he.out]; rfl, by rw [← he.out]; exact hown.out, (by repeat (first | exact Fine.refl _ | assumption | refine Fine.alloc ?_ _ | refine Fine.drew ?_ | refine Fine.drewN ?_ _ | refine Fine.trans ?_ (by assumption) | (refine Fine.kept ?_ (by assumption) (by intro x hx; first | omega | (simp; omega))) | (refine Fine.setCell ?_ (by first | assumption | (simp; omega)) _)))⟩
  · go_wp2_with fail
    go_loopw [4, 12] (fun out i wr => ∃ k : Nat, k ≤ ps.length ∧ i = .int .i64 k ∧ (∃ A' c', out = .slice A' (ables ps k).length c' ∧ Own LI 3 wr w.heap.size (.slice A' (ables ps k).length c') (ables ps k)) ∧ Fine w wr) (fun _ i _ => ps.length - (intOf i).toNat)
    case atStart => exact ⟨0, Nat.zero_le _, rfl, ⟨none, 0, rfl, Own.nil_ _ _ _ _⟩, f1⟩
    case round =>
      obtain ⟨k, hk, rfl, ⟨A', c', rfl, hown0⟩, hf⟩ := hrel
      have hown := Lib.hid hown0; clear hown0
      have hsz := hf.size
      have hal := ables_le ps k
      by_cases hlt : k < ps.length
      · obtain ⟨b, off, r, bk, s, l, hp0, rfl, hb, c0, c1, c2, c3⟩ := (h.fine hf).atP hlt
        have hok : Hid (okAt ps k = Pth.able true ⟨r, bk, s, l⟩) := by show okAt ps k = _; unfold okAt; rw [ho.out, hp0]
        clear hp0
        rcases able_cases true r bk l with h1 | ⟨h1, h2⟩ | ⟨h1, h2, h3⟩ | ⟨h1, h2, h3, h4⟩ | ⟨h1, h2, h3, h4⟩
        · subst h1
          have hst := ables_no (hok.out.trans (able_no (.inl rfl)))
          have HST := Lib.hid hst; clear hst
          go_wp2_with fail
          go_roundw
          case rel => exact ⟨k + 1, by omega, by go_num, ⟨A', c', by rw [HST.out], by rw [HST.out]; exact hown.out.fine (by repeat (first | exact Fine.refl _ | assumption | refine Fine.alloc ?_ _ | refine Fine.drew ?_ | refine Fine.drewN ?_ _ | refine Fine.trans ?_ (by assumption) | (refine Fine.kept ?_ (by assumption) (by intro x hx; first | omega | (simp; omega))) | (refine Fine.setCell ?_ (by first | assumption | (simp; omega)) _)))⟩, (by repeat (first | exact Fine.refl _ | assumption | refine Fine.alloc ?_ _ | refine Fine.drew ?_ | refine Fine.drewN ?_ _ | refine Fine.trans ?_ (by assumption) | (refine Fine.kept ?_ (by assumption) (by intro x hx; first | omega | (simp; omega))) | (refine Fine.setCell ?_ (by first | assumption | (simp; omega)) _)))⟩
          case measure => simp [intOf]; omega
        · subst h1
          have hst := ables_no (hok.out.trans (able_no (.inr (.inl h2))))
          have HST := Lib.hid hst; clear hst
          go_wp2_with fail
          go_roundw
          case rel => exact ⟨k + 1, by omega, by go_num, ⟨A', c', by rw [HST.out], by rw [HST.out]; exact hown.out.fine (by repeat (first | exact Fine.refl _ | assumption | refine Fine.alloc ?_ _ | refine Fine.drew ?_ | refine Fine.drewN ?_ _ | refine Fine.trans ?_ (by assumption) | (refine Fine.kept ?_ (by assumption) (by intro x hx; first | omega | (simp; omega))) | (refine Fine.setCell ?_ (by first | assumption | (simp; omega)) _)))⟩, (by repeat (first | exact Fine.refl _ | assumption | refine Fine.alloc ?_ _ | refine Fine.drew ?_ | refine Fine.drewN ?_ _ | refine Fine.trans ?_ (by assumption) | (refine Fine.kept ?_ (by assumption) (by intro x hx; first | omega | (simp; omega))) | (refine Fine.setCell ?_ (by first | assumption | (simp; omega)) _)))⟩
          case measure => simp [intOf]; omega
        · cases h3
        · subst h1 h4
          have hst := ables_yes (hok.out.trans (able_yes rfl (by omega) (.inr rfl)))
          have HST := Lib.hid hst; clear hst
          go_wp2_with (at_builtin; refine wpList_appE rfl sliceI (.tmp 32) (.tmp 34) rfl w.heap.size _ (ables ps k) rfl ((hown.out.alloc _).alloc _) (some ⟨wr.heap.size + 1, 0, none⟩) 1 1 [(k : Int)] rfl rfl (RS.ofBlk (Blk.newAt (by simp)) rfl rfl (by unfold maxLen; omega)) ?_ ?_ ?_ ?_)
          · (first | omega | (unfold maxLen; omega) | (simp; omega) | (simp; unfold maxLen; omega))
          · (first | omega | (unfold maxLen; omega) | (simp; omega) | (simp; unfold maxLen; omega))
          · (first | omega | (unfold maxLen; omega) | (simp; omega) | (simp; unfold maxLen; omega))
          · intro A2 c2' w2 hown2 hk2 _
            go_wp2_with fail
            go_roundw
            case rel => exact ⟨k + 1, by omega, by go_num, ⟨A2, c2', by rw [HST.out]; simp, by rw [HST.out]; simpa using hown2.out⟩, Fine.kept (a := w) (by repeat (first | exact Fine.refl _ | assumption | refine Fine.alloc ?_ _ | refine Fine.drew ?_ | refine Fine.drewN ?_ _ | refine Fine.trans ?_ (by assumption) | (refine Fine.kept ?_ (by assumption) (by intro x hx; first | omega | (simp; omega))) | (refine Fine.setCell ?_ (by first | assumption | (simp; omega)) _))) hk2 (by intro x hx; omega)⟩
            case measure => simp [intOf]; omega
        · subst h1 h4
          have hst := ables_no (hok.out.trans (able_no (.inr (.inr ⟨rfl, rfl⟩))))
          have HST := Lib.hid hst; clear hst
          go_wp2_with fail
          go_roundw
          case rel => exact ⟨k + 1, by omega, by go_num, ⟨A', c', by rw [HST.out], by rw [HST.out]; exact hown.out.fine (by repeat (first | exact Fine.refl _ | assumption | refine Fine.alloc ?_ _ | refine Fine.drew ?_ | refine Fine.drewN ?_ _ | refine Fine.trans ?_ (by assumption) | (refine Fine.kept ?_ (by assumption) (by intro x hx; first | omega | (simp; omega))) | (refine Fine.setCell ?_ (by first | assumption | (simp; omega)) _)))⟩, (by repeat (first | exact Fine.refl _ | assumption | refine Fine.alloc ?_ _ | refine Fine.drew ?_ | refine Fine.drewN ?_ _ | refine Fine.trans ?_ (by assumption) | (refine Fine.kept ?_ (by assumption) (by intro x hx; first | omega | (simp; omega))) | (refine Fine.setCell ?_ (by first | assumption | (simp; omega)) _)))⟩
          case measure => simp [intOf]; omega
      · have he := Lib.hid (show k = ps.length by omega)
        go_wp2_with fail
        go_ret
        exact ⟨A', c', by rw [← he.out]; rfl, by rw [← he.out]; exact hown.out, (by repeat (first | exact Fine.refl _ | assumption | refine Fine.alloc ?_ _ | refine Fine.drew ?_ | refine Fine.drewN ?_ _ | refine Fine.trans ?_ (by assumption) | (refine Fine.kept ?_ (by assumption) (by intro x hx; first | omega | (simp; omega))) | (refine Fine.setCell ?_ (by first | assumption | (simp; omega)) _)))⟩
end Go.Proofs.Ytaedkhfmcfcgbaa
