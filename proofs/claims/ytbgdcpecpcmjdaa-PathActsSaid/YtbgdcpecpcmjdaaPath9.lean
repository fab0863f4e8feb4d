/- Contracts of the document's manager: Flow, Gone, Tell, Untell, Told. -/
import Derived.Test.YtbgdcpecpcmjdaaPath8
namespace Go.Proofs.Ytbgdcpecpcmjdaa
open Go.ChangeShapes Go.WideShapes Go.ChangeAt Go.RowKit
set_option linter.unusedVariables false

theorem RS.atQ {w : World} {A : Option Addr} {c : Nat} {Ls : List (Int × Int)} (h : RS layQ w A c Ls) {k : Nat} (hk : k < Ls.length) : ∃ b off x y, Ls.getD k (0, 0) = (x, y) ∧ A = some ⟨b, off, none⟩ ∧ b < w.heap.size ∧
    w.cell? ⟨b, off + k * 2, none⟩ = some (.int .i64 x) ∧ w.cell? ⟨b, off + k * 2 + 1, none⟩ = some (.int .i64 y) := by
  have hx : Ls[k]? = some (Ls.getD k (0, 0)) := by simp [List.getD, hk]
  obtain ⟨b, off, e, hb, hc⟩ := h.at_ hx
  refine ⟨b, off, _, _, rfl, e, hb, ?_, ?_⟩
  · have := hc 0 _ rfl; rwa [Nat.add_zero] at this
  · have := hc 1 _ rfl; rwa [← Nat.add_assoc] at this

theorem flow_any (g : Nat) (v : Nat → Prop) (xs ys : List Int) (Ls : List (Int × Int)) (m a b : Int) (hl : Ls.length ≤ 16) (w : World) (h : RefB w g v xs ys Ls m) :
    Calls Try.prog 35 #[.pointer (some ⟨g, 0, none⟩), .int .i64 a, .int .i64 b] w fun e w' => e = .returned (.bool (decide ((a, b) ∈ Ls))) ∧ w' = w := by
  obtain ⟨A1, c1, A2, c2, A3, c3, hb, h1, h2, h3, hg, s1, s2, s3⟩ := h
  have c2 : w.cell? ⟨g, 2, none⟩ = some (.slice A3 Ls.length c3) := hb.cell 2
  have hr := h3.rs.1
  have hm := hr.max
  have hle := hr.le
  unfold maxLen at hm
  clear hb h1 h2 h3 s1 s2 s3 hg
  go_enter Try.func35, Try.ntmps35
  go_wp2_with fail
  go_loop [7] (fun i => ∃ k : Nat, k ≤ Ls.length ∧ i = .int .i64 k ∧ (a, b) ∉ Ls.take k) (fun i => Ls.length - (intOf i).toNat)
  case atStart => exact ⟨0, Nat.zero_le _, rfl, by simp⟩
  case round =>
    obtain ⟨k, hk, rfl, hno0⟩ := hrel
    have hno := Lib.hid hno0; clear hno0
    by_cases hlt : k < Ls.length
    · obtain ⟨b3, o3, x, y, hp, rfl, hb3, d0, d1⟩ := hr.atQ hlt
      have HX := Lib.hid hp; clear hp
      have hcase : (a = x ∧ b = y) ∨ (¬ x = a ∨ (x = a ∧ ¬ y = b)) := by
        by_cases e1 : x = a
        · by_cases e2 : y = b
          · exact .inl ⟨e1.symm, e2.symm⟩
          · exact .inr (.inr ⟨e1, e2⟩)
        · exact .inr (.inl e1)
      have hsucc : ¬ (a = x ∧ b = y) → Hid ((a, b) ∉ Ls.take (k + 1)) := fun hn => by
        show (a, b) ∉ _
        rw [List.take_succ_eq_append_getElem hlt]
        have e := HX.out
        simp [List.getD, hlt] at e
        rw [List.mem_append, e]
        rintro (h | h)
        · exact hno.out h
        · have h := List.mem_singleton.1 h
          injection h with h1 h2
          exact hn ⟨h1, h2⟩
      rcases hcase with ⟨rfl, rfl⟩ | hne
      · have hr1 : Hid (decide ((a, b) ∈ Ls) = true) := by
          show _ = _
          rw [decide_eq_true_iff, ← HX.out]
          simp [List.getD, hlt]
        clear hsucc
        go_wp2_with fail
        go_ret
        exact ⟨ret_bool hr1.out.symm, rfl⟩
      · have hn2 := hsucc (by rintro ⟨rfl, rfl⟩; rcases hne with h | ⟨_, h⟩ <;> exact h rfl)
        clear hsucc
        rcases hne with hne | ⟨rfl, hne⟩
        all_goals
          go_wp2_with fail
          go_round
          case rel => exact ⟨k + 1, by omega, by go_num, hn2.out⟩
          case measure => simp [intOf]; omega
    · have hr1 : Hid (decide ((a, b) ∈ Ls) = false) := by
        show _ = _
        rw [decide_eq_false_iff_not]
        have := hno.out
        rwa [List.take_of_length_le (by omega)] at this
      go_wp2_with fail
      go_ret
      exact ⟨ret_bool hr1.out.symm, rfl⟩

theorem gone_walk (g : Nat) (v : Nat → Prop) (xs ys : List Int) (Ls : List (Int × Int)) (m a b : Int) (hl : Ls.length ≤ 16) (w : World) (hv : ∀ k, v k → k < w.heap.size) (h : RefB w g v xs ys Ls m) :
    Calls Try.prog 26 #[.pointer (some ⟨g, 0, none⟩), .int .i64 a, .int .i64 b] w fun e w' => e = .returned (.bool (decide ((a, b) ∈ Ls))) ∧ RefB w' g v xs ys (gone Ls a b) m ∧ Kept (· = g) w w' := by
  have H := Lib.hid h
  obtain ⟨A1, c1, A2, c2, A3, c3, hb, h1, h2, h3, hg, s1, s2, s3⟩ := h
  have hglt := hb.lt
  have d2 : w.cell? ⟨g, 2, none⟩ = some (.slice A3 Ls.length c3) := hb.cell 2
  have hr := h3.rs.1
  have hm := hr.max
  have hle := hr.le
  have hA3 := h3.from_
  unfold maxLen at hm
  have HB := Lib.hid hb; have H1 := Lib.hid h1; have H2 := Lib.hid h2; have H3 := Lib.hid h3; have S1 := Lib.hid s1; have S2 := Lib.hid s2; have S3 := Lib.hid s3
  have HR := Lib.hid hr; have HA3 := Lib.hid hA3
  clear hb h1 h2 h3 s1 s2 s3 hr hA3
  go_enter Try.func26, Try.ntmps26
  go_wp2_with fail
  refine (flow_any g v xs ys Ls m a b hl w H.out).mono ?_; rintro e w' ⟨rfl, rfl⟩
  go_wp2_with fail
  go_loopw [8, 9] (fun out i wr => ∃ k : Nat, k ≤ Ls.length ∧ i = .int .i64 k ∧ (∃ A' c', out = .slice A' (gone (Ls.take k) a b).length c' ∧ Own layQ 54 wr w'.heap.size (.slice A' (gone (Ls.take k) a b).length c') (gone (Ls.take k) a b)) ∧ Fine w' wr) (fun _ i _ => Ls.length - (intOf i).toNat)
  case atStart => exact ⟨0, Nat.zero_le _, rfl, ⟨none, 0, by simp [gone], by simpa [gone] using Own.nil_ _ _ _ _⟩, (by repeat (first | exact Fine.refl _ | assumption | refine Fine.alloc ?_ _ | refine Fine.drew ?_ | refine Fine.drewN ?_ _ | refine Fine.trans ?_ (by assumption) | (refine Fine.kept ?_ (by assumption) (by intro x hx; first | omega | (simp; omega))) | (refine Fine.setCell ?_ (by first | assumption | (simp; done) | (simp; omega)) _)))⟩
  case round =>
    obtain ⟨k, hk, rfl, ⟨A', c', rfl, hown0⟩, hf⟩ := hrel
    have hown := Lib.hid hown0; clear hown0
    have hsz := hf.size
    have hal : (gone (Ls.take k) a b).length ≤ k := Nat.le_trans (gone_le _ _ _) (List.length_take_le _ _)
    have e2 := (hf.cell (p := ⟨g, 2, none⟩) hglt).trans d2
    by_cases hlt : k < Ls.length
    · obtain ⟨b3, o3, x, y, hp, rfl, hb3, d0, d1⟩ := (HR.out.fine hf).atQ hlt
      have hcase : (a = x ∧ b = y) ∨ (¬ x = a ∨ (x = a ∧ ¬ y = b)) := by
        by_cases e1 : x = a
        · by_cases e2 : y = b
          · exact .inl ⟨e1.symm, e2.symm⟩
          · exact .inr (.inr ⟨e1, e2⟩)
        · exact .inr (.inl e1)
      rcases hcase with ⟨rfl, rfl⟩ | hne
      · have HST := Lib.hid (gone_no hlt hp)
        clear hp
        go_wp2_with fail
        go_roundw
        case rel => exact ⟨k + 1, by omega, by go_num, ⟨A', c', by rw [HST.out], by rw [HST.out]; exact hown.out⟩, hf⟩
        case measure => simp [intOf]; omega
      · have hst := gone_yes (x := a) (y := b) hlt (by rw [hp]; intro e; injection e with e1 e2; rcases hne with h | ⟨_, h⟩; exact h e1; exact h e2)
        rw [hp] at hst
        have HST := Lib.hid hst; clear hst hp
        rcases hne with hne | ⟨rfl, hne⟩
        all_goals
          go_wp2_with (at_builtin; refine wpList_appE rfl sliceR (.tmp 34) (.tmp 42) rfl w'.heap.size _ _ rfl (hown.out.alloc _) (some ⟨wr.heap.size, 0, none⟩) 1 1 [(x, y)] rfl rfl (RS.litQ 54 _ _ (by simp)) ?_ ?_ ?_ ?_)
          · (first | omega | (unfold maxLen; omega) | (simp; omega) | (simp; unfold maxLen; omega))
          · (first | omega | (unfold maxLen; omega) | (simp; omega) | (simp; unfold maxLen; omega))
          · (first | omega | (unfold maxLen; omega) | (simp; omega) | (simp; unfold maxLen; omega))
          · intro A2 c2' w2 hown2 hk2 _
            go_wp2_with fail
            go_roundw
            case rel => exact ⟨k + 1, by omega, by go_num, ⟨A2, c2', by rw [HST.out]; simp, by rw [HST.out]; simpa using hown2.out⟩, Fine.kept (a := w') (hf.alloc _) hk2 (by intro x hx; omega)⟩
            case measure => simp [intOf]; omega
    · have he := Lib.hid (show Ls.take k = Ls from List.take_of_length_le (by omega))
      have hB := HB.out.fine hf
      have r2 := hB.frozen 2
      have HB2 := Lib.hid hB; clear hB
      have hbs := HB.out.lt
      go_wp2_with fail
      go_ret
      have e1 : gone (Ls.take k) a b = gone Ls a b := by rw [he.out]
      rw [e1]
      have ho : Own layQ 54 wr w'.heap.size (.slice A' (gone Ls a b).length c') (gone Ls a b) := by rw [← e1]; exact hown.out
      have hset : Kept (· = g) wr (wr.setCell ⟨g, 2, none⟩ (.slice A' (gone Ls a b).length c')) := (by repeat (first | exact Kept.refl _ _ | assumption | (refine Kept.setIn ?_ (by simp) _) | refine Kept.alloc ?_ _ | refine Kept.drew ?_ | refine Kept.drewN ?_ _ | refine Kept.trans ?_ (by assumption) | refine Kept.trans ?_ (Kept.of_fine (by assumption))))
      have hnew := ho.from_
      have hss : (wr.setCell ⟨g, 2, none⟩ (.slice A' (gone Ls a b).length c')).heap.size = wr.heap.size := by simp [World.setCell]
      refine ⟨rfl, ⟨A1, c1, A2, c2, A', c', HB2.out.set_ 2 _, (H1.out.fine hf).kept hset (fun b' off e => (S1.out b' off e).2.2.1), (H2.out.fine hf).kept hset (fun b' off e => (S2.out b' off e).2.2.1), (ho.lower (Nat.zero_le _)).kept hset (fun k' hk' e => by have := ho.lt k' hk'; omega), hg, fun b' off e => ?_, fun b' off e => ?_, fun k' hk' => ?_⟩, ?_⟩
      · have h1 := S1.out b' off e
        exact ⟨h1.1, by rw [hss]; have := h1.2.1; omega, h1.2.2.1, fun e' => by have := ho.lt b' e'; have := h1.2.1; omega⟩
      · have h1 := S2.out b' off e
        exact ⟨h1.1, by rw [hss]; have := h1.2.1; omega, h1.2.2.1, fun e' => by have := ho.lt b' e'; have := h1.2.1; omega⟩
      · have h1 := ho.lt k' hk'
        exact ⟨by omega, fun e => by have := hv k' e; omega⟩
      · exact (Kept.of_fine hf).trans hset
end Go.Proofs.Ytbgdcpecpcmjdaa
