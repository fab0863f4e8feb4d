/- Contracts of the document's functions: may, has, less, more, Flow; its manager in memory. -/
import Derived.Test.YtbgdcpecpcmjdaaPath6
import Derived.Test.YtbgdcpecpcmjdaaPathPlain3
namespace Go.Proofs.Ytbgdcpecpcmjdaa
open Go.ChangeShapes Go.WideShapes Go.ChangeAt Go.RowKit
set_option linter.unusedVariables false

theorem refmay_any (a : Int) (w : World) : Calls Try.prog 32 #[.int .i64 a] w fun e w' => e = .returned (.bool (mayI a)) ∧ w = w' := by
  have hc : (0 ≤ a ∧ a ≤ 3) ∨ a < 0 ∨ (0 ≤ a ∧ 3 < a) := by omega
  rcases hc with ⟨h1, h2⟩ | h1 | ⟨h1, h2⟩
  · have hy : Hid (mayI a = true) := by show mayI a = true; unfold mayI; simp; omega
    go_enter Try.func32, Try.ntmps32
    go_wp2
    go_ret
    exact ⟨ret_bool hy.out.symm, rfl⟩
  all_goals
    have hy : Hid (mayI a = false) := by show mayI a = false; unfold mayI; simp; omega
    go_enter Try.func32, Try.ntmps32
    go_wp2
    go_ret
    exact ⟨ret_bool (by first | exact hy.out.symm | (rw [hy.out]; simp <;> omega)), rfl⟩

theorem has_any (A : Option Addr) (c : Nat) (xs : List Int) (a : Int) (hl : xs.length ≤ 4) (w : World) (hx : RS LI w A c xs) :
    Calls Try.prog 33 #[.slice A xs.length c, .int .i64 a] w fun e w' => e = .returned (.bool (decide (a ∈ xs))) ∧ w = w' := by
  go_enter Try.func33, Try.ntmps33
  go_wp2_with fail
  go_loop [5] (fun i => ∃ k : Nat, k ≤ xs.length ∧ i = .int .i64 k ∧ a ∉ xs.take k) (fun i => xs.length - (intOf i).toNat)
  case atStart => exact ⟨0, Nat.zero_le _, rfl, by simp⟩
  case round =>
    obtain ⟨k, hk, rfl, hno0⟩ := hrel
    have hno := Lib.hid hno0; clear hno0
    by_cases hlt : k < xs.length
    · obtain ⟨b, off, rfl, hb, c0⟩ := hx.atI hlt
      obtain ⟨x, hx0⟩ : ∃ x, xs.getD k 0 = x := ⟨_, rfl⟩
      rw [hx0] at c0
      have HX := Lib.hid hx0; clear hx0
      by_cases he : x = a
      · have hb1 : (x == a) = true := beq_iff_eq.2 he
        have hr : Hid (decide (a ∈ xs) = true) := by show _ = _; rw [decide_eq_true_iff, ← he, ← HX.out]; exact getD_mem xs k hlt
        have HE := Lib.hid he; clear he
        go_wp2
        go_ret
        exact ⟨ret_bool hr.out.symm, rfl⟩
      · have hb1 : (x == a) = false := beq_eq_false_iff_ne.2 he
        have hn2 : Hid (a ∉ xs.take (k + 1)) := by
          show a ∉ _
          rw [List.take_succ_eq_append_getElem hlt]
          have e := HX.out
          simp [List.getD, hlt] at e
          rw [List.mem_append, e]
          rintro (h | h)
          · exact hno.out h
          · exact he (List.mem_singleton.1 h).symm
        clear he
        go_wp2
        go_round
        case rel => exact ⟨k + 1, by omega, by go_num, hn2.out⟩
        case measure => simp [intOf]; omega
    · have hr : Hid (decide (a ∈ xs) = false) := by
        show _ = _
        rw [decide_eq_false_iff_not]
        have := hno.out
        rwa [List.take_of_length_le (by omega)] at this
      go_wp2
      go_ret
      exact ⟨ret_bool hr.out.symm, rfl⟩

theorem less_any (A : Option Addr) (c : Nat) (xs : List Int) (a : Int) (hl : xs.length ≤ 4) (w : World) (hx : RS LI w A c xs) :
    Calls Try.prog 34 #[.slice A xs.length c, .int .i64 a] w (AddrOf (lessL xs a) w) := by
  go_enter Try.func34, Try.ntmps34
  go_wp2_with fail
  go_loopw [5, 6] (fun out i wr => ∃ k : Nat, k ≤ xs.length ∧ i = .int .i64 k ∧ (∃ A' c', out = .slice A' (lessL (xs.take k) a).length c' ∧ Own LI 3 wr w.heap.size (.slice A' (lessL (xs.take k) a).length c') (lessL (xs.take k) a)) ∧ Fine w wr) (fun _ i _ => xs.length - (intOf i).toNat)
  case atStart => exact ⟨0, Nat.zero_le _, rfl, ⟨none, 0, by simp [lessL], by simpa [lessL] using Own.nil_ _ _ _ _⟩, (by repeat (first | exact Fine.refl _ | assumption | refine Fine.alloc ?_ _ | refine Fine.drew ?_ | refine Fine.drewN ?_ _ | refine Fine.trans ?_ (by assumption) | (refine Fine.kept ?_ (by assumption) (by intro x hx; first | omega | (simp; omega))) | (refine Fine.setCell ?_ (by first | assumption | (simp; done) | (simp; omega)) _)))⟩
  case round =>
    obtain ⟨k, hk, rfl, ⟨A', c', rfl, hown0⟩, hf⟩ := hrel
    have hown := Lib.hid hown0; clear hown0
    have hsz := hf.size
    have hal : (lessL (xs.take k) a).length ≤ k := Nat.le_trans (List.length_filter_le _ _) (List.length_take_le _ _)
    by_cases hlt : k < xs.length
    · obtain ⟨b, off, rfl, hb, c0⟩ := (hx.fine hf).atI hlt
      obtain ⟨x, hx0⟩ : ∃ x, xs.getD k 0 = x := ⟨_, rfl⟩
      rw [hx0] at c0
      have ht : xs.take (k + 1) = xs.take k ++ [x] := by
        rw [List.take_succ_eq_append_getElem hlt, ← hx0]; simp [List.getD, hlt]
      clear hx0
      by_cases he : x = a
      · have hb1 : (x != a) = false := by simp [he]
        have HST : Hid (lessL (xs.take (k + 1)) a = lessL (xs.take k) a) := by show _ = _; rw [ht]; simp [lessL, he]
        clear he ht
        go_wp2_with fail
        go_roundw
        case rel => exact ⟨k + 1, by omega, by go_num, ⟨A', c', by rw [HST.out], by rw [HST.out]; exact hown.out⟩, hf⟩
        case measure => simp [intOf]; omega
      · have hb1 : (x != a) = true := by simp [he]
        have HST : Hid (lessL (xs.take (k + 1)) a = lessL (xs.take k) a ++ [x]) := by show _ = _; rw [ht]; simp [lessL, he]
        clear he ht
        go_wp2_with (at_builtin; refine wpList_appE rfl sliceI (.tmp 19) (.tmp 24) rfl w.heap.size _ (lessL (xs.take k) a) rfl (hown.out.alloc _) (some ⟨wr.heap.size, 0, none⟩) 1 1 [x] rfl rfl (RS.litI x (by simp)) ?_ ?_ ?_ ?_)
        · (first | omega | (unfold maxLen; omega) | (simp; omega) | (simp; unfold maxLen; omega))
        · (first | omega | (unfold maxLen; omega) | (simp; omega) | (simp; unfold maxLen; omega))
        · (first | omega | (unfold maxLen; omega) | (simp; omega) | (simp; unfold maxLen; omega))
        · intro A2 c2' w2 hown2 hk2 _
          go_wp2_with fail
          go_roundw
          case rel => exact ⟨k + 1, by omega, by go_num, ⟨A2, c2', by rw [HST.out]; simp, by rw [HST.out]; simpa using hown2.out⟩, Fine.kept (a := w) (hf.alloc _) hk2 (by intro x hx; omega)⟩
          case measure => simp [intOf]; omega
    · have he := Lib.hid (show xs.take k = xs from List.take_of_length_le (by omega))
      go_wp2_with fail
      go_ret
      have e1 : lessL (xs.take k) a = lessL xs a := by rw [he.out]
      exact ⟨A', c', by rw [← e1]; rfl, by rw [← e1]; exact hown.out, hf⟩

theorem more_any (A : Option Addr) (c : Nat) (xs : List Int) (a : Int) (hl : xs.length ≤ 4) (w : World) (hx : RS LI w A c xs) :
    Calls Try.prog 31 #[.slice A xs.length c, .int .i64 a] w (AddrOf (moreL xs a) w) := by
  obtain ⟨p, hp0⟩ : ∃ p : Nat → Bool, (fun k : Nat => (k : Int) == a || decide ((k : Int) ∈ xs)) = p := ⟨_, rfl⟩
  have hpk : ∀ k : Nat, p k = ((k : Int) == a || decide ((k : Int) ∈ xs)) := fun k => by rw [← hp0]
  have hm : moreL xs a = addrs p 4 := by unfold moreL; rw [hp0]
  rw [hm]
  have HP := Lib.hid hpk; clear hpk hm hp0
  go_enter Try.func31, Try.ntmps31
  go_wp2_with fail
  go_loopw [5, 6] (fun out i wr => ∃ k : Nat, k ≤ 4 ∧ i = .int .i64 k ∧ (∃ A' c', out = .slice A' (addrs p k).length c' ∧ Own LI 3 wr w.heap.size (.slice A' (addrs p k).length c') (addrs p k)) ∧ Fine w wr) (fun _ i _ => 4 - (intOf i).toNat)
  case atStart => exact ⟨0, Nat.zero_le _, rfl, ⟨none, 0, rfl, Own.nil_ _ _ _ _⟩, (by repeat (first | exact Fine.refl _ | assumption | refine Fine.alloc ?_ _ | refine Fine.drew ?_ | refine Fine.drewN ?_ _ | refine Fine.trans ?_ (by assumption) | (refine Fine.kept ?_ (by assumption) (by intro x hx; first | omega | (simp; omega))) | (refine Fine.setCell ?_ (by first | assumption | (simp; done) | (simp; omega)) _)))⟩
  case round =>
    obtain ⟨k, hk, rfl, ⟨A', c', rfl, hown0⟩, hf⟩ := hrel
    have hown := Lib.hid hown0; clear hown0
    have hsz := hf.size
    have hal := addrs_le p k
    by_cases hlt : k < 4
    · by_cases he : (k : Int) = a
      · have hb1 : ((k : Int) == a) = true := beq_iff_eq.2 he
        have HST := Lib.hid (addrs_yes (p := p) (k := k) (by rw [HP.out, hb1]; rfl))
        clear he
        go_wp2_with (at_builtin; refine wpList_appE rfl sliceI (.tmp 19) (.tmp 21) rfl w.heap.size _ (addrs p k) rfl (hown.out.alloc _) (some ⟨wr.heap.size, 0, none⟩) 1 1 [(k : Int)] rfl rfl (RS.litI _ (by simp)) ?_ ?_ ?_ ?_)
        · (first | omega | (unfold maxLen; omega) | (simp; omega) | (simp; unfold maxLen; omega))
        · (first | omega | (unfold maxLen; omega) | (simp; omega) | (simp; unfold maxLen; omega))
        · (first | omega | (unfold maxLen; omega) | (simp; omega) | (simp; unfold maxLen; omega))
        · intro A2 c2' w2 hown2 hk2 _
          go_wp2_with fail
          go_roundw
          case rel => exact ⟨k + 1, by omega, by go_num, ⟨A2, c2', by rw [HST.out]; simp, by rw [HST.out]; simpa using hown2.out⟩, Fine.kept (a := w) (hf.alloc _) hk2 (by intro x hx; omega)⟩
          case measure => simp [intOf]; omega
      · have hb1 : ((k : Int) == a) = false := beq_eq_false_iff_ne.2 he
        have hpk : p k = decide ((k : Int) ∈ xs) := by rw [HP.out, hb1]; rfl
        clear he
        go_wp2_with fail
        refine (has_any A c xs k hl _ (hx.fine hf)).mono ?_; rintro e w1 ⟨rfl, rfl⟩
        rw [← hpk]
        cases hpv : p k
        · have HST := Lib.hid (addrs_no hpv); clear hpv hpk
          go_wp2_with fail
          go_roundw
          case rel => exact ⟨k + 1, by omega, by go_num, ⟨A', c', by rw [HST.out], by rw [HST.out]; exact hown.out⟩, hf⟩
          case measure => simp [intOf]; omega
        · have HST := Lib.hid (addrs_yes hpv); clear hpv hpk
          go_wp2_with (at_builtin; refine wpList_appE rfl sliceI (.tmp 19) (.tmp 21) rfl w.heap.size _ (addrs p k) rfl (hown.out.alloc _) (some ⟨wr.heap.size, 0, none⟩) 1 1 [(k : Int)] rfl rfl (RS.litI _ (by simp)) ?_ ?_ ?_ ?_)
          · (first | omega | (unfold maxLen; omega) | (simp; omega) | (simp; unfold maxLen; omega))
          · (first | omega | (unfold maxLen; omega) | (simp; omega) | (simp; unfold maxLen; omega))
          · (first | omega | (unfold maxLen; omega) | (simp; omega) | (simp; unfold maxLen; omega))
          · intro A2 c2' w2 hown2 hk2 _
            go_wp2_with fail
            go_roundw
            case rel => exact ⟨k + 1, by omega, by go_num, ⟨A2, c2', by rw [HST.out]; simp, by rw [HST.out]; simpa using hown2.out⟩, Fine.kept (a := w) (hf.alloc _) hk2 (by intro x hx; omega)⟩
            case measure => simp [intOf]; omega
    · have he := Lib.hid (show k = 4 by omega)
      go_wp2_with fail
      go_ret
      have e1 : addrs p k = addrs p 4 := by rw [he.out]
      exact ⟨A', c', by rw [← e1]; rfl, by rw [← e1]; exact hown.out, hf⟩

/-! The document's manager in memory; v: blocks that are none of its. -/
def RefB (w : World) (g : Nat) (v : Nat → Prop) (xs ys : List Int) (Ls : List (Int × Int)) (m : Int) : Prop :=
  ∃ A1 c1 A2 c2 A3 c3, Blk w g 60 #[.slice A1 xs.length c1, .slice A2 ys.length c2, .slice A3 Ls.length c3, .int .i64 m] ∧ RS LI w A1 c1 xs ∧ RS LI w A2 c2 ys ∧ Own layQ 54 w 0 (.slice A3 Ls.length c3) Ls ∧ ¬ v g ∧
    (∀ b off, A1 = some ⟨b, off, none⟩ → ¬ v b ∧ b < w.heap.size ∧ b ≠ g ∧ (Value.slice A3 Ls.length c3).ownBlock ≠ some b) ∧ (∀ b off, A2 = some ⟨b, off, none⟩ → ¬ v b ∧ b < w.heap.size ∧ b ≠ g ∧ (Value.slice A3 Ls.length c3).ownBlock ≠ some b) ∧
    (∀ k, (Value.slice A3 Ls.length c3).ownBlock = some k → k ≠ g ∧ ¬ v k)
theorem RefB.kept {S v : Nat → Prop} {w w' : World} {g : Nat} {xs ys : List Int} {Ls : List (Int × Int)} {m : Int} (h : RefB w g v xs ys Ls m) (hf : Kept S w w') (hS : ∀ k, ¬ v k → k < w.heap.size → ¬ S k) : RefB w' g v xs ys Ls m := by
  obtain ⟨A1, c1, A2, c2, A3, c3, hb, h1, h2, h3, hg, s1, s2, s3⟩ := h
  have key : ∀ {A : Option Addr} {c : Nat} {zs : List Int}, RS LI w A c zs → (∀ b off, A = some ⟨b, off, none⟩ → ¬ v b) → RS LI w' A c zs := fun {A c zs} hr hA => by
    refine ⟨hr.1, hr.2.1, hr.2.2.1, fun hp => ?_⟩
    obtain ⟨b, off, e, hb, hc⟩ := hr.2.2.2 hp
    exact ⟨b, off, e, Nat.lt_of_lt_of_le hb hf.size, fun i v hv => (hf.cell hb (hS b (hA b off e) hb)).trans (hc i v hv)⟩
  exact ⟨A1, c1, A2, c2, A3, c3, hb.kept hf (hS g hg hb.lt), key h1 (fun b off e => (s1 b off e).1), key h2 (fun b off e => (s2 b off e).1), h3.kept hf (fun k hk => hS k (s3 k hk).2 (h3.lt k hk).2), hg, fun b off e => ⟨(s1 b off e).1, Nat.lt_of_lt_of_le (s1 b off e).2.1 hf.size, (s1 b off e).2.2⟩, fun b off e => ⟨(s2 b off e).1, Nat.lt_of_lt_of_le (s2 b off e).2.1 hf.size, (s2 b off e).2.2⟩, s3⟩
theorem RefB.fine {v : Nat → Prop} {w w' : World} {g : Nat} {xs ys : List Int} {Ls : List (Int × Int)} {m : Int} (h : RefB w g v xs ys Ls m) (hf : Fine w w') : RefB w' g v xs ys Ls m := h.kept (S := fun _ => False) (Kept.of_fine hf) (fun _ _ _ f => f)
theorem RefB.less {v v' : Nat → Prop} {w : World} {g : Nat} {xs ys : List Int} {Ls : List (Int × Int)} {m : Int} (h : RefB w g v xs ys Ls m) (hv : ∀ k, k < w.heap.size → v' k → v k) : RefB w g v' xs ys Ls m := by
  obtain ⟨A1, c1, A2, c2, A3, c3, hb, h1, h2, h3, hg, s1, s2, s3⟩ := h
  exact ⟨A1, c1, A2, c2, A3, c3, hb, h1, h2, h3, fun e => hg (hv g hb.lt e), fun b off e => ⟨fun e' => (s1 b off e).1 (hv b (s1 b off e).2.1 e'), (s1 b off e).2⟩, fun b off e => ⟨fun e' => (s2 b off e).1 (hv b (s2 b off e).2.1 e'), (s2 b off e).2⟩, fun k hk => ⟨(s3 k hk).1, fun e' => (s3 k hk).2 (hv k (h3.lt k hk).2 e')⟩⟩
end Go.Proofs.Ytbgdcpecpcmjdaa
