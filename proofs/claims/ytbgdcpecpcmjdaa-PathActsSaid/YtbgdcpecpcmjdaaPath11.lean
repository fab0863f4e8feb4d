/- Contracts of the document's manager beside the program's state: Told, Gone, Untold, Join, New. -/
import Derived.Test.YtbgdcpecpcmjdaaPath10
namespace Go.Proofs.Ytbgdcpecpcmjdaa
open Go.ChangeShapes Go.WideShapes Go.ChangeAt Go.RowKit
set_option linter.unusedVariables false

theorem reftold_any (g : Nat) (v : Nat → Prop) (L : List Bool) (m a : Int) (w : World) (hv : ∀ k, v k → k < w.heap.size) (h : RefL w g v L m) :
    Calls Try.prog 21 #[.pointer (some ⟨g, 0, none⟩), .int .i64 a] w fun e w' => e = .returned (.tuple #[]) ∧ RefL w' g v (toldL L a) m ∧ Kept (· = g) w w' := by
  obtain ⟨hL, Ls, hm, hb⟩ := h
  have hlt := hb.lt
  have HM := Lib.hid hm; have HB := Lib.hid hb
  clear hm
  cases hmay : mayI a
  · have HC : Hid (toldL L a = L) := by show toldL L a = L; simp [toldL, hmay]
    clear hb
    go_enter Try.func21, Try.ntmps21
    go_wp2_with fail
    refine (refmay_any _ _).mono ?_; rintro e w1 ⟨rfl, rfl⟩
    rw [hmay]
    go_wp2_with fail
    go_end0
    exact ⟨rfl, by rw [HC.out]; exact ⟨hL, Ls, HM.out, HB.out⟩, Kept.refl _ _⟩
  · have HMY := Lib.hid hmay
    obtain ⟨n, rfl, hn⟩ := mayI_nat hmay
    have hz := addrs_le (othB L) 4
    obtain ⟨A1, c1, A2, c2, A3, c3, hb0, h1, h2, h3, hg, s1, s2, s3⟩ := hb
    have d0 : w.cell? ⟨g, 1, none⟩ = some (.slice A2 (addrs (othB L) 4).length c2) := hb0.cell 1
    have r0 := hb0.frozen 1
    have H2 := Lib.hid h2; have HB0 := Lib.hid hb0
    clear hb0 h1 h2 h3 s1 s2 s3
    have HC : Hid (toldL L n = L.set (4 + n) true) := by show toldL L n = _; simp only [toldL, hmay, if_true, Int.toNat_natCast]
    clear hmay
    go_enter Try.func21, Try.ntmps21
    go_wp2_with fail
    refine (refmay_any _ _).mono ?_; rintro e w1 ⟨rfl, rfl⟩
    rw [HMY.out]
    go_wp2_with fail
    refine (more_any A2 c2 _ n hz _ H2.out).mono ?_; rintro e w1 ⟨A, c, rfl, ho1, f1⟩
    rw [more_addrs hn] at ho1 ⊢
    have ht := tell_oth hL hn true
    generalize addrs (fun k => if k = n then true else othB L k) 4 = zs at ho1 ht ⊢
    have HT := Lib.hid ht; clear ht
    have HO1 := Lib.hid ho1; clear ho1
    have hB1 := HB0.out.fine f1
    have d1 : w1.cell? ⟨g, 1, none⟩ = some (.slice A2 (addrs (othB L) 4).length c2) := hB1.cell 1
    have r1 := hB1.frozen 1
    clear hB1
    go_wp2_with fail
    go_end0
    have hset := HB.out.set2 hv f1 HO1.out
    have ht := HT.out
    exact ⟨rfl, by rw [HC.out]; exact ⟨by rw [List.length_set]; exact hL, Ls, HM.out.congr ht.2.2, by rw [ht.1, ht.2.1]; exact hset.1⟩, hset.2⟩

theorem gone_lists {L : List Bool} (hL : L.length = 24) (x y : Int) : addrs (ownB (goneL L x y)) 4 = addrs (ownB L) 4 ∧ addrs (othB (goneL L x y)) 4 = addrs (othB L) 4 ∧ (goneL L x y).length = 24 := by
  unfold goneL
  split
  · rename_i hm
    have h1 : mayI x = true := by cases e : mayI x <;> simp [e] at hm ⊢
    have h2 : mayI y = true := by cases e : mayI y <;> simp [e] at hm ⊢
    obtain ⟨n, rfl, hn⟩ := mayI_nat h1
    obtain ⟨k, rfl, hk⟩ := mayI_nat h2
    rw [Int.toNat_natCast, Int.toNat_natCast]
    exact ⟨addrs_congr fun i hi => own_set hL hn hk false hi, addrs_congr fun i hi => oth_set hL hn hk false hi, by rw [List.length_set]; exact hL⟩
  · exact ⟨rfl, rfl, hL⟩
theorem refgone_any (g : Nat) (v : Nat → Prop) (L : List Bool) (m a b : Int) (w : World) (hv : ∀ k, v k → k < w.heap.size) (h : RefL w g v L m) :
    Calls Try.prog 26 #[.pointer (some ⟨g, 0, none⟩), .int .i64 a, .int .i64 b] w fun e w' => e = .returned (.bool (goneB L a b)) ∧ RefL w' g v (goneL L a b) m ∧ Kept (· = g) w w' := by
  obtain ⟨hL, Ls, hm, hb⟩ := h
  refine (gone_walk g v _ _ Ls m a b hm.small w hv hb).mono fun e w' ⟨he, hr, hk⟩ => ⟨by rw [he, hm.flow]; rfl, ?_, hk⟩
  have hg := gone_lists hL a b
  exact ⟨hg.2.2, _, hm.gone hL a b, by rw [hg.1, hg.2.1]; exact hr⟩
theorem goneL_no {L : List Bool} {a b : Int} (h : mayI b = false) : goneL L a b = L ∧ goneB L a b = false := by
  constructor
  · unfold goneL; rw [h]; simp
  · unfold goneB; rw [h]; simp

def RefUntoldOf (g : Nat) (v : Nat → Prop) (L : List Bool) (m : Int) (xs : List (Int × Int)) (w : World) (e : Ending) (w' : World) : Prop :=
  ∃ A c, e = .returned (.slice A xs.length c) ∧ Own layQ 54 w' w.heap.size (.slice A xs.length c) xs ∧ RefL w' g v L m ∧ Kept (· = g) w w'
/-- The state, and the pairs, behind k own addresses. -/
def untS (L : List Bool) (b : Int) (k : Nat) : List Bool := if mayI b then goneN (L.set (4 + b.toNat) false) b.toNat k else L
def untP (L : List Bool) (b : Int) (k : Nat) : List (Int × Int) := if mayI b then withB L b.toNat k else []
theorem unt_step {L : List Bool} (hL : L.length = 24) (b : Int) {k : Nat} (hk : k < 4) : goneL (untS L b k) k b = untS L b (k + 1) ∧ untP L b (k + 1) = untP L b k ++ (if goneB (untS L b k) k b then [((k : Int), b)] else []) := by
  unfold untS untP
  cases hm : mayI b
  · simp only [Bool.false_eq_true, if_false]
    rw [(goneL_no hm).1, (goneL_no hm).2]
    exact ⟨rfl, rfl⟩
  · obtain ⟨n, rfl, hn⟩ := mayI_nat hm
    simp only [if_true, Int.toNat_natCast]
    obtain ⟨e1, e2⟩ := goneN_step (L := L) hn hk hL
    rw [e1, e2]
    refine ⟨rfl, ?_⟩
    cases hf : flowB L k n
    · rw [withB_no hf]; simp
    · rw [withB_yes hf]; simp
theorem untP_zero (L : List Bool) (b : Int) : untP L b 0 = [] := by unfold untP; split <;> rfl
theorem untP_le (L : List Bool) (b : Int) (k : Nat) : (untP L b k).length ≤ k := by
  unfold untP
  split
  · exact withB_le _ _ _
  · exact Nat.zero_le _

theorem refuntold_any (g : Nat) (v : Nat → Prop) (L : List Bool) (m b : Int) (w : World) (hv : ∀ k, v k → k < w.heap.size) (h : RefL w g v L m) :
    Calls Try.prog 24 #[.pointer (some ⟨g, 0, none⟩), .int .i64 b] w (RefUntoldOf g v (untoldL L b) m (untoldP L b) w) := by
  obtain ⟨hL, Ls, hm, hb⟩ := h
  have hlt := hb.lt
  have HM := Lib.hid hm; have HB := Lib.hid hb
  clear hm
  have hz := addrs_le (othB L) 4
  obtain ⟨A1, c1, A2, c2, A3, c3, hb0, h1, h2, h3, hg, s1, s2, s3⟩ := hb
  have d0 : w.cell? ⟨g, 1, none⟩ = some (.slice A2 (addrs (othB L) 4).length c2) := hb0.cell 1
  have r0 := hb0.frozen 1
  have H2 := Lib.hid h2; have HB0 := Lib.hid hb0
  clear hb0 h1 h2 h3 s1 s2 s3
  have hend : Hid (untS L b 4 = untoldL L b ∧ untP L b 4 = untoldP L b) := ⟨rfl, rfl⟩
  -- the list of the other's addresses behind 'less'
  have hless : (lessL (addrs (othB L) 4) b = addrs (othB (untS L b 0)) 4) ∧ addrs (ownB (untS L b 0)) 4 = addrs (ownB L) 4 ∧ (untS L b 0).length = 24 ∧ (∀ x y, x < 4 → y < 4 → flowB (untS L b 0) x y = flowB L x y) := by
    cases hmy : mayI b
    · have e : untS L b 0 = L := by unfold untS; rw [hmy]; rfl
      rw [e]
      exact ⟨less_addrs_no hmy, rfl, hL, fun _ _ _ _ => rfl⟩
    · obtain ⟨n, rfl, hn⟩ := mayI_nat hmy
      have e : untS L n 0 = L.set (4 + n) false := by unfold untS; rw [hmy, if_pos rfl, Int.toNat_natCast]; rfl
      rw [e]
      have ht := tell_oth hL hn false
      exact ⟨by rw [less_addrs hn]; exact ht.1.symm, ht.2.1, by rw [List.length_set]; exact hL, ht.2.2⟩
  have HL := Lib.hid hless; clear hless
  go_enter Try.func24, Try.ntmps24
  go_wp2_with fail
  refine (less_any A2 c2 _ b hz _ H2.out).mono ?_; rintro e w1 ⟨A, c, rfl, ho1, f1⟩
  rw [HL.out.1] at ho1 ⊢
  have HO1 := Lib.hid ho1; clear ho1
  have hB1 := HB0.out.fine f1
  have d1 : w1.cell? ⟨g, 1, none⟩ = some (.slice A2 (addrs (othB L) 4).length c2) := hB1.cell 1
  have r1 := hB1.frozen 1
  clear hB1
  have hset := HB.out.set2 hv f1 HO1.out
  have hR : RefL (w1.setCell ⟨g, 1, none⟩ (.slice A (addrs (othB (untS L b 0)) 4).length c)) g v (untS L b 0) m := ⟨HL.out.2.2.1, Ls, HM.out.congr HL.out.2.2.2, by rw [HL.out.2.1]; exact hset.1⟩
  have hK := hset.2
  have HR := Lib.hid hR; clear hR hset
  go_wp2_with fail
  go_loopw [5, 6] (fun out i wr => ∃ k : Nat, k ≤ 4 ∧ i = .int .i64 k ∧ (∃ A' c', out = .slice A' (untP L b k).length c' ∧ Own layQ 54 wr w.heap.size (.slice A' (untP L b k).length c') (untP L b k)) ∧ RefL wr g (fun x => v x ∨ out.ownBlock = some x) (untS L b k) m ∧ Kept (· = g) w wr) (fun _ i _ => 4 - (intOf i).toNat)
  case atStart => exact ⟨0, Nat.zero_le _, rfl, ⟨none, 0, by rw [untP_zero]; rfl, by rw [untP_zero]; exact Own.nil_ _ _ _ _⟩, HR.out.less (fun k _ h => h.elim id (fun e => by cases e)), hK⟩
  case round =>
    obtain ⟨k, hk, rfl, ⟨A', c', rfl, hown0⟩, hpm, hkp⟩ := hrel
    have hown := Lib.hid hown0; clear hown0
    have HP := Lib.hid hpm; clear hpm
    have hsz := hkp.size
    have hal := untP_le L b k
    have hvr : Hid (∀ x, (v x ∨ (Value.slice A' (untP L b k).length c').ownBlock = some x) → x < wr.heap.size) := fun x hx => hx.elim (fun e => by have := hv x e; omega) (fun e => (hown.out.lt x e).2)
    by_cases hlt4 : k < 4
    · obtain ⟨e1, e2⟩ := unt_step (L := L) hL b hlt4
      have E1 := Lib.hid e1
      clear e1
      go_wp2_with fail
      refine (refgone_any g _ _ m k b _ hvr.out HP.out).mono ?_; rintro e w3 ⟨rfl, h3, k3⟩
      rw [E1.out] at h3
      have H3 := Lib.hid h3; clear h3
      have k13 : Kept (· = g) w w3 := hkp.trans k3
      have hs3 := k13.size
      have hg3 := H3.out.lt
      have hown3 : Hid (Own layQ 54 w3 w.heap.size (.slice A' (untP L b k).length c') (untP L b k)) := hown.out.kept k3 (fun x hx e => by have := hown.out.lt x hx; omega)
      cases hf : goneB (untS L b k) k b
      · rw [hf] at e2
        have HST : Hid (untP L b (k + 1) = untP L b k) := by show _ = _; rw [e2]; simp
        clear hf e2 hg3
        go_wp2_with fail
        go_roundw
        case rel => exact ⟨k + 1, by omega, by go_num, ⟨A', c', by rw [HST.out], by rw [HST.out]; exact hown3.out⟩, H3.out, k13⟩
        case measure => simp [intOf]; omega
      · rw [hf, if_pos rfl] at e2
        have HST := Lib.hid e2
        have HG3 := Lib.hid hg3
        clear hf e2 hg3
        go_wp2_with (at_builtin; refine wpList_appE rfl sliceR (.tmp 24) (.tmp 28) rfl w.heap.size _ (untP L b k) rfl (hown3.out.alloc _) (some ⟨w3.heap.size, 0, none⟩) 1 1 [((k : Int), b)] rfl rfl (RS.litQ 54 _ _ (by simp)) ?_ ?_ ?_ ?_)
        · (first | omega | (unfold maxLen; omega) | (simp; omega) | (simp; unfold maxLen; omega))
        · (first | omega | (unfold maxLen; omega) | (simp; omega) | (simp; unfold maxLen; omega))
        · (first | omega | (unfold maxLen; omega) | (simp; omega) | (simp; unfold maxLen; omega))
        · intro A2 c2' w4 hown4 hk4 hg4
          have hR4 : Hid (RefL w4 g (fun x => v x ∨ (Value.slice A2 ((untP L b k).length + 1) c2').ownBlock = some x) (untS L b (k + 1)) m) := by
            have hk5 : Kept (fun x => (Value.slice A' (untP L b k).length c').ownBlock = some x) (w3.alloc (.cells #[.int .i64 k, .int .i64 b] 54)) w4 := (Kept.refl _ _).grown hg4.out.1 (fun x hx _ => hx)
            have h5 := (H3.out.fine ((Fine.refl _).alloc (.cells #[.int .i64 k, .int .i64 b] 54))).less (v' := fun x => (v x ∨ (Value.slice A2 ((untP L b k).length + 1) c2').ownBlock = some x) ∨ (Value.slice A' (untP L b k).length c').ownBlock = some x) (fun x hx h => by
              rcases h with (h | h) | h
              · exact .inl h
              · rcases hg4.out.2 with h6 | h6
                · exact .inr (h6.symm.trans h)
                · have h7 := Option.some.inj (h6.symm.trans h)
                  exact absurd hx (by simp; omega)
              · exact .inr h)
            exact (h5.kept hk5 (fun x hx _ e => hx (.inr e))).less (fun x _ h => .inl h)
          go_wp2_with fail
          go_roundw
          case rel => exact ⟨k + 1, by omega, by go_num, ⟨A2, c2', by rw [HST.out]; simp, by rw [HST.out]; simpa using hown4.out⟩, hR4.out, (k13.alloc _).new hk4 (Nat.le_refl _)⟩
          case measure => simp [intOf]; omega
    · have he := Lib.hid (show k = 4 by omega)
      go_wp2_with fail
      go_ret
      have e1 : untP L b k = untoldP L b := by rw [he.out]; exact hend.out.2
      exact ⟨A', c', by rw [← e1]; rfl, by rw [← e1]; exact hown.out, by have := HP.out; rw [he.out, hend.out.1] at this; exact this.less (fun x _ h => .inl h), hkp⟩
end Go.Proofs.Ytbgdcpecpcmjdaa
