/- Contracts of package path's methods: Pairs, Untold, Join, New. -/
import Derived.Test.YtbgdcpecpcmjdaaPath2
import Derived.Deep.RegionHeld3
namespace Go.Proofs.Ytbgdcpecpcmjdaa
open Go.ChangeShapes Go.WideShapes Go.ChangeAt Go.RowKit
set_option linter.unusedVariables false

def layQ : Lay (Int × Int) 2 := { cs := fun p => [.int .i64 p.1, .int .i64 p.2], len := fun _ => rfl, one := fun x u hu => by simp at hu; rcases hu with rfl | rfl <;> rfl, pos := by decide }
theorem sliceQ : SliceTy Try.prog 35 31 2 16 := SliceTy.mk' Try.underlying35 (z := .agg #[.int .i64 0, .int .i64 0]) (by kernel_rfl) rfl
theorem sliceR : SliceTy Try.prog 51 54 2 16 := SliceTy.mk' Try.underlying51 (z := .agg #[.int .i64 0, .int .i64 0]) (by kernel_rfl) rfl
theorem RS.litQ {w : World} {g : Nat} (t : TypeId) (x y : Int) (hg : g = w.heap.size) : RS layQ (w.alloc (.cells #[.int .i64 x, .int .i64 y] t)) (some ⟨g, 0, none⟩) 1 [(x, y)] := RS.ofBlk (Blk.newAt hg) rfl rfl (by unfold maxLen; omega)
def PairsOf (t : TypeId) (xs : List (Int × Int)) (w : World) (e : Ending) (w' : World) : Prop := ∃ A c, e = .returned (.slice A xs.length c) ∧ Own layQ t w' w.heap.size (.slice A xs.length c) xs ∧ Fine w w'

theorem pairsN_succ (L : List Bool) (k : Nat) : pairsN L (k + 1) = pairsN L k ++ (addrs (flowB L k) 4).map fun b => ((k : Int), b) := rfl
theorem take_map_snoc {l : List Int} {j : Nat} (h : j < l.length) (k : Nat) : (l.take (j + 1)).map (fun b => ((k : Int), b)) = (l.take j).map (fun b => ((k : Int), b)) ++ [((k : Int), l.getD j 0)] := by
  rw [List.take_succ_eq_append_getElem h, List.map_append]; simp [List.getD, h]

theorem pairs_any (g : Nat) (L : List Bool) (m : Int) (w : World) (h : PMB w g L m) :
    Calls Try.prog 13 #[.pointer (some ⟨g, 0, none⟩)] w (PairsOf 31 (pairsN L 4) w) := by
  have hlt := h.lt
  have H := Lib.hid h; clear h
  go_enter Try.func13, Try.ntmps13
  go_wp2_with fail
  go_loopw [3, 9] (fun out i wr => ∃ k : Nat, k ≤ 4 ∧ i = .int .i64 k ∧ (∃ A' c', out = .slice A' (pairsN L k).length c' ∧ Own layQ 31 wr w.heap.size (.slice A' (pairsN L k).length c') (pairsN L k)) ∧ Fine w wr) (fun _ i _ => 4 - (intOf i).toNat)
  case atStart => exact ⟨0, Nat.zero_le _, rfl, ⟨none, 0, rfl, Own.nil_ _ _ _ _⟩, (by repeat (first | exact Fine.refl _ | assumption | refine Fine.alloc ?_ _ | refine Fine.drew ?_ | refine Fine.drewN ?_ _ | refine Fine.trans ?_ (by assumption) | (refine Fine.kept ?_ (by assumption) (by intro x hx; first | omega | (simp; omega))) | (refine Fine.setCell ?_ (by first | assumption | (simp; omega)) _)))⟩
  case round =>
    obtain ⟨k, hk, rfl, ⟨A', c', rfl, hown0⟩, hf⟩ := hrel
    obtain ⟨wo, rfl⟩ : ∃ wo : World, wo = wr := ⟨_, rfl⟩
    have hown := Lib.hid hown0; clear hown0
    have hsz := hf.size
    have hpl := pairsN_le L k
    by_cases hlt4 : k < 4
    · have h1 := H.out.fine hf
      have c0 := h1.cell (i := 8 + k * 4) (by omega)
      have c1 := h1.cell (i := 8 + k * 4 + 1) (by omega)
      have c2 := h1.cell (i := 8 + k * 4 + 2) (by omega)
      have c3 := h1.cell (i := 8 + k * 4 + 3) (by omega)
      have HL := Lib.hid (list_any (flowB L k) _ _ _ _ rfl rfl rfl rfl)
      clear h1
      have hal := addrs_le (flowB L k) 4
      have hsucc := Lib.hid (pairsN_succ L k)
      go_wp2_with fail
      refine (HL.out wo).mono ?_; rintro e w1 ⟨A, c, rfl, ho, f1⟩
      obtain ⟨xs, hxs0⟩ : ∃ xs, addrs (flowB L k) 4 = xs := ⟨_, rfl⟩
      rw [hxs0] at ho hal ⊢
      have HX := Lib.hid hxs0; clear hxs0
      have HO := Lib.hid ho; clear ho c0 c1 c2 c3
      have hs1 := f1.size
      go_wp2_with fail
      go_loopw [3, 20] (fun out i wr => ∃ j : Nat, j ≤ xs.length ∧ i = .int .i64 j ∧ (∃ A' c', out = .slice A' (pairsN L k ++ (xs.take j).map (fun b => ((k : Int), b))).length c' ∧ Own layQ 31 wr w.heap.size (.slice A' (pairsN L k ++ (xs.take j).map (fun b => ((k : Int), b))).length c') (pairsN L k ++ (xs.take j).map (fun b => ((k : Int), b)))) ∧ Fine w wr ∧ RS LI wr A c xs ∧ (∀ g off, A = some ⟨g, off, none⟩ → out.ownBlock ≠ some g)) (fun _ i _ => xs.length - (intOf i).toNat)
      case atStart => exact ⟨0, Nat.zero_le _, rfl, ⟨A', c', by simp, by simpa using hown.out.fine f1⟩, (by repeat (first | exact Fine.refl _ | assumption | refine Fine.alloc ?_ _ | refine Fine.drew ?_ | refine Fine.drewN ?_ _ | refine Fine.trans ?_ (by assumption) | (refine Fine.kept ?_ (by assumption) (by intro x hx; first | omega | (simp; omega))) | (refine Fine.setCell ?_ (by first | assumption | (simp; omega)) _))), HO.out.rs.1, fun g off e1 e2 => by
        have h1 := HO.out.from_ g off e1
        have h2 := hown.out.lt g e2
        omega⟩
      case round =>
        obtain ⟨j, hj, rfl, ⟨A3, c3, rfl, hown3⟩, hf3, hr3, hne3⟩ := hrel
        obtain ⟨ys, hys0⟩ : ∃ ys, pairsN L k ++ (xs.take j).map (fun b => ((k : Int), b)) = ys := ⟨_, rfl⟩
        have hyl : ys.length ≤ 4 * k + j := by rw [← hys0, List.length_append, List.length_map, List.length_take]; omega
        by_cases hlj : j < xs.length
        · have hst : pairsN L k ++ (xs.take (j + 1)).map (fun b => ((k : Int), b)) = ys ++ [((k : Int), xs.getD j 0)] := by rw [take_map_snoc hlj, ← List.append_assoc, hys0]
          rw [hys0] at hown3 hne3 ⊢
          have HNE := Lib.hid hne3; clear hne3
          clear hys0
          obtain ⟨b, off, rfl, hb, e0⟩ := hr3.atI hlj
          obtain ⟨x, hx0⟩ : ∃ x, xs.getD j 0 = x := ⟨_, rfl⟩
          rw [hx0] at e0 hst
          clear hx0
          have hw3 := hf3.size
          have HST := Lib.hid hst; clear hst
          have HR3 := Lib.hid hr3; clear hr3
          have HN3 := Lib.hid hown3; clear hown3
          go_wp2_with (at_builtin; refine wpList_appE rfl sliceQ (.tmp 24) (.tmp 28) rfl w.heap.size _ ys rfl (HN3.out.alloc _) (some ⟨wr.heap.size, 0, none⟩) 1 1 [((k : Int), x)] rfl rfl (RS.litQ 31 _ _ (by simp)) ?_ ?_ ?_ ?_)
          · (first | omega | (unfold maxLen; omega) | (simp; omega) | (simp; unfold maxLen; omega))
          · (first | omega | (unfold maxLen; omega) | (simp; omega) | (simp; unfold maxLen; omega))
          · (first | omega | (unfold maxLen; omega) | (simp; omega) | (simp; unfold maxLen; omega))
          · intro A2 c2' w2 hown2 hk2 hg2
            go_wp2_with fail
            go_roundw
            case rel => exact ⟨j + 1, by omega, by go_num, ⟨A2, c2', by rw [HST.out]; simp, by rw [HST.out]; simpa using hown2.out⟩, Fine.kept (a := w) (by repeat (first | exact Fine.refl _ | assumption | refine Fine.alloc ?_ _ | refine Fine.drew ?_ | refine Fine.drewN ?_ _ | refine Fine.trans ?_ (by assumption) | (refine Fine.kept ?_ (by assumption) (by intro x hx; first | omega | (simp; omega))) | (refine Fine.setCell ?_ (by first | assumption | (simp; omega)) _))) hk2 (by intro x hx; omega), (HR3.out.fine (by repeat (first | exact Fine.refl _ | assumption | refine Fine.alloc ?_ _ | refine Fine.drew ?_ | refine Fine.drewN ?_ _ | refine Fine.trans ?_ (by assumption) | (refine Fine.kept ?_ (by assumption) (by intro x hx; first | omega | (simp; omega))) | (refine Fine.setCell ?_ (by first | assumption | (simp; omega)) _)))).grown hg2.out.1 (fun b' off' e => HNE.out b' off' e), fun g' off' e1 e2 => by
              rcases hg2.out.2 with h5 | h5
              · exact HNE.out g' off' e1 (h5.symm.trans e2)
              · have h6 := h5.symm.trans e2
                injection h6 with h6
                injection e1 with e1
                injection e1 with e1
                have h7 : (wr.alloc (.cells #[.int .i64 k, .int .i64 x] 31)).heap.size = wr.heap.size + 1 := by simp
                omega⟩
            case measure => simp [intOf]; omega
        · have he : pairsN L (k + 1) = ys := by rw [hsucc.out, HX.out, ← hys0, List.take_of_length_le (by omega)]
          clear hne3
          rw [hys0] at hown3 ⊢
          have HE := Lib.hid he; clear he hys0
          have HN3 := Lib.hid hown3; clear hown3
          go_wp2_with fail
          go_roundw
          case rel => exact ⟨k + 1, by omega, by go_num, ⟨A3, c3, by rw [HE.out], by rw [HE.out]; exact HN3.out⟩, hf3⟩
          case measure => simp [intOf]; omega
    · have he := Lib.hid (show k = 4 by omega)
      go_wp2_with fail
      go_ret
      exact ⟨A', c', by rw [← he.out]; rfl, by rw [← he.out]; exact hown.out, (by repeat (first | exact Fine.refl _ | assumption | refine Fine.alloc ?_ _ | refine Fine.drew ?_ | refine Fine.drewN ?_ _ | refine Fine.trans ?_ (by assumption) | (refine Fine.kept ?_ (by assumption) (by intro x hx; first | omega | (simp; omega))) | (refine Fine.setCell ?_ (by first | assumption | (simp; omega)) _)))⟩

def UntoldOf (g : Nat) (L : List Bool) (m : Int) (xs : List (Int × Int)) (w : World) (e : Ending) (w' : World) : Prop :=
  ∃ A c, e = .returned (.slice A xs.length c) ∧ Own layQ 31 w' w.heap.size (.slice A xs.length c) xs ∧ PMB w' g L m ∧ Kept (· = g) w w'
theorem withB_yes {L : List Bool} {b k : Nat} (h : flowB L k b = true) : withB L b (k + 1) = withB L b k ++ [((k : Int), (b : Int))] := by
  unfold withB; rw [addrs_yes (p := fun a => flowB L a b) h, List.map_append]; rfl
theorem withB_no {L : List Bool} {b k : Nat} (h : flowB L k b = false) : withB L b (k + 1) = withB L b k := by
  unfold withB; rw [addrs_no (p := fun a => flowB L a b) h]
theorem withB_le (L : List Bool) (b k : Nat) : (withB L b k).length ≤ k := by unfold withB; rw [List.length_map]; exact addrs_le _ _
theorem goneN_step {L : List Bool} {b k : Nat} (hb : b < 4) (hk : k < 4) (hL : L.length = 24) : goneB (goneN (L.set (4 + b) false) b k) k b = flowB L k b ∧ goneL (goneN (L.set (4 + b) false) b k) k b = goneN (L.set (4 + b) false) b (k + 1) := by
  constructor
  · unfold goneB
    rw [mayI_of hk, mayI_of hb]
    simp only [Bool.true_and, Int.toNat_natCast]
    unfold flowB
    rw [goneN_at hb (by omega) (by rw [List.length_set]; exact hL), if_neg (by rintro ⟨a, ha, e⟩; omega), getD_set _ _ _ _ (by omega), if_neg (by omega)]
  · unfold goneL
    rw [mayI_of hk, mayI_of hb]
    simp only [Bool.and_self, if_true, Int.toNat_natCast]
    rfl
theorem untold_any (g : Nat) (L : List Bool) (m b : Int) (w : World) (h : PMB w g L m) :
    Calls Try.prog 23 #[.pointer (some ⟨g, 0, none⟩), .int .i64 b] w (UntoldOf g (untoldL L b) m (untoldP L b) w) := by
  have hlt := h.lt
  have hlen := h.len
  cases hm : mayI b
  · have HC : Hid (untoldL L b = L ∧ untoldP L b = []) := by constructor <;> simp [untoldL, untoldP, hm]
    rw [HC.out.1, HC.out.2]
    have HM := Lib.hid hm; clear hm
    have H := Lib.hid h; clear h
    go_enter Try.func23, Try.ntmps23
    go_wp2_with fail
    refine (may1 _ _ _ rfl).mono ?_; rintro e w1 ⟨rfl, f1⟩
    rw [HM.out]
    go_wp2_with fail
    go_ret
    have f : Fine w w1 := (by repeat (first | exact Fine.refl _ | assumption | refine Fine.alloc ?_ _ | refine Fine.drew ?_ | refine Fine.drewN ?_ _ | refine Fine.trans ?_ (by assumption) | (refine Fine.kept ?_ (by assumption) (by intro x hx; first | omega | (simp; omega))) | (refine Fine.setCell ?_ (by first | assumption | (simp; omega)) _)))
    exact ⟨none, 0, rfl, Own.nil_ _ _ _ _, H.out.fine f, Kept.of_fine f⟩
  · have HM := Lib.hid hm
    obtain ⟨n, rfl, hn⟩ := mayI_nat hm
    have HC : Hid (untoldL L n = goneN (L.set (4 + n) false) n 4 ∧ untoldP L n = withB L n 4) := by constructor <;> simp [untoldL, untoldP, hm]
    rw [HC.out.1, HC.out.2]
    clear hm
    have c0 := h.cell (i := 4 + n) (by omega)
    obtain ⟨v, hv⟩ : ∃ v, L.getD (4 + n) false = v := ⟨_, rfl⟩
    rw [hv] at c0
    clear hv
    have H := Lib.hid h; clear h
    go_enter Try.func23, Try.ntmps23
    go_wp2_with fail
    refine (may1 _ _ _ rfl).mono ?_; rintro e w1 ⟨rfl, f1⟩
    rw [HM.out]
    have f : Fine w w1 := (by repeat (first | exact Fine.refl _ | assumption | refine Fine.alloc ?_ _ | refine Fine.drew ?_ | refine Fine.drewN ?_ _ | refine Fine.trans ?_ (by assumption) | (refine Fine.kept ?_ (by assumption) (by intro x hx; first | omega | (simp; omega))) | (refine Fine.setCell ?_ (by first | assumption | (simp; omega)) _)))
    have h1 := H.out.fine f
    have d0 : w1.cell? ⟨g, 4 + n, none⟩ = some (.bool v) := (f.cell (p := ⟨g, 4 + n, none⟩) hlt).trans c0
    have fr := h1.frozen (4 + n)
    have h2 := h1.set_ (i := 4 + n) (by omega) false
    have k2 : Kept (· = g) w (w1.setCell ⟨g, 4 + n, none⟩ (.bool false)) := (Kept.of_fine f).trans (by repeat (first | exact Kept.refl _ _ | assumption | (refine Kept.setIn ?_ (by simp) _) | refine Kept.alloc ?_ _ | refine Kept.drew ?_ | refine Kept.drewN ?_ _ | refine Kept.trans ?_ (by assumption) | refine Kept.trans ?_ (Kept.of_fine (by assumption))))
    have H2 := Lib.hid h2; clear h2 h1
    go_wp2_with fail
    go_loopw [5, 20] (fun out i wr => ∃ k : Nat, k ≤ 4 ∧ i = .int .i64 k ∧ (∃ A' c', out = .slice A' (withB L n k).length c' ∧ Own layQ 31 wr w.heap.size (.slice A' (withB L n k).length c') (withB L n k)) ∧ PMB wr g (goneN (L.set (4 + n) false) n k) m ∧ Kept (· = g) w wr) (fun _ i _ => 4 - (intOf i).toNat)
    case atStart => exact ⟨0, Nat.zero_le _, rfl, ⟨none, 0, rfl, Own.nil_ _ _ _ _⟩, H2.out, k2⟩
    case round =>
      obtain ⟨k, hk, rfl, ⟨A', c', rfl, hown0⟩, hpm, hkp⟩ := hrel
      have hown := Lib.hid hown0; clear hown0
      have HP := Lib.hid hpm; clear hpm
      have hsz := hkp.size
      have hal := withB_le L n k
      by_cases hlt4 : k < 4
      · obtain ⟨e1, e2⟩ := goneN_step (L := L) hn hlt4 hlen
        have E1 := Lib.hid e1
        have E2 := Lib.hid e2
        clear e1 e2
        go_wp2_with fail
        refine (gone_any g _ m k n _ HP.out).mono ?_; rintro e w3 ⟨rfl, h3, k3⟩
        rw [E1.out]
        rw [E2.out] at h3
        have H3 := Lib.hid h3; clear h3
        have k13 : Kept (· = g) w w3 := hkp.trans k3
        have hs3 := k13.size
        have hown3 : Hid (Own layQ 31 w3 w.heap.size (.slice A' (withB L n k).length c') (withB L n k)) := hown.out.kept k3 (fun x hx e => by have := hown.out.lt x hx; omega)
        cases hf : flowB L k n
        · have HST := Lib.hid (withB_no hf); clear hf
          go_wp2_with fail
          go_roundw
          case rel => exact ⟨k + 1, by omega, by go_num, ⟨A', c', by rw [HST.out], by rw [HST.out]; exact hown3.out⟩, H3.out, k13⟩
          case measure => simp [intOf]; omega
        · have HST := Lib.hid (withB_yes hf); clear hf
          go_wp2_with (at_builtin; refine wpList_appE rfl sliceQ (.tmp 27) (.tmp 31) rfl w.heap.size _ (withB L n k) rfl (hown3.out.alloc _) (some ⟨w3.heap.size, 0, none⟩) 1 1 [((k : Int), (n : Int))] rfl rfl (RS.litQ 31 _ _ (by simp)) ?_ ?_ ?_ ?_)
          · (first | omega | (unfold maxLen; omega) | (simp; omega) | (simp; unfold maxLen; omega))
          · (first | omega | (unfold maxLen; omega) | (simp; omega) | (simp; unfold maxLen; omega))
          · (first | omega | (unfold maxLen; omega) | (simp; omega) | (simp; unfold maxLen; omega))
          · intro A2 c2' w4 hown4 hk4 _
            go_wp2_with fail
            go_roundw
            case rel => exact ⟨k + 1, by omega, by go_num, ⟨A2, c2', by rw [HST.out]; simp, by rw [HST.out]; simpa using hown4.out⟩, (H3.out.fine (by repeat (first | exact Fine.refl _ | assumption | refine Fine.alloc ?_ _ | refine Fine.drew ?_ | refine Fine.drewN ?_ _ | refine Fine.trans ?_ (by assumption) | (refine Fine.kept ?_ (by assumption) (by intro x hx; first | omega | (simp; omega))) | (refine Fine.setCell ?_ (by first | assumption | (simp; omega)) _)))).kept hk4 (by omega), (k13.alloc _).new hk4 (Nat.le_refl _)⟩
            case measure => simp [intOf]; omega
      · have he := Lib.hid (show k = 4 by omega)
        go_wp2_with fail
        go_ret
        have e1 : withB L n k = withB L n 4 := by rw [he.out]
        exact ⟨A', c', by rw [← e1]; rfl, by rw [← e1]; exact hown.out, by have := HP.out; rwa [he.out] at this, hkp⟩

theorem joinC_no {L : List Bool} {m a b : Int} (h : (mayI a && mayI b) = false) : joinC L m a b = 1 ∧ joinL L m a b = L := by
  have e : joinC L m a b = 1 := by simp only [joinC, h]; rfl
  exact ⟨e, by unfold joinL; rw [e]; rfl⟩
theorem joinC_none {L : List Bool} {m : Int} {n k : Nat} (h : (mayI n && mayI k) = true) (ho : (ownB L n && othB L k) = false) : joinC L m n k = 6 ∧ joinL L m n k = L := by
  have e : joinC L m n k = 6 := by simp only [joinC, h, Int.toNat_natCast, ho]; rfl
  exact ⟨e, by unfold joinL; rw [e]; rfl⟩
theorem joinC_twice {L : List Bool} {m : Int} {n k : Nat} (h : (mayI n && mayI k) = true) (ho : (ownB L n && othB L k) = true) (hf : flowB L n k = true) : joinC L m n k = 8 ∧ joinL L m n k = L := by
  have e : joinC L m n k = 8 := by simp only [joinC, h, Int.toNat_natCast, ho, hf]; rfl
  exact ⟨e, by unfold joinL; rw [e]; rfl⟩
theorem joinC_full {L : List Bool} {m : Int} {n k : Nat} (h : (mayI n && mayI k) = true) (ho : (ownB L n && othB L k) = true) (hf : flowB L n k = false) (hl : m ≤ ((pairsN L 4).length : Int)) : joinC L m n k = 7 ∧ joinL L m n k = L := by
  have e : joinC L m n k = 7 := by simp only [joinC, h, Int.toNat_natCast, ho, hf, if_pos hl]; rfl
  exact ⟨e, by unfold joinL; rw [e]; rfl⟩
theorem joinC_ok {L : List Bool} {m : Int} {n k : Nat} (h : (mayI n && mayI k) = true) (ho : (ownB L n && othB L k) = true) (hf : flowB L n k = false) (hl : ¬ m ≤ ((pairsN L 4).length : Int)) : joinC L m n k = 0 ∧ joinL L m n k = L.set (8 + n * 4 + k) true := by
  have e : joinC L m n k = 0 := by simp only [joinC, h, Int.toNat_natCast, ho, hf, if_neg hl]; rfl
  exact ⟨e, by unfold joinL; rw [e]; rfl⟩

set_option maxHeartbeats 1000000 in
theorem join_any (g : Nat) (L : List Bool) (m a b : Int) (w : World) (h : PMB w g L m) :
    Calls Try.prog 12 #[.pointer (some ⟨g, 0, none⟩), .int .i64 a, .int .i64 b] w fun e w' => e = .returned (.int .i64 (joinC L m a b)) ∧ PMB w' g (joinL L m a b) m ∧ Kept (· = g) w w' := by
  have hlt := h.lt
  cases hm : mayI a && mayI b
  · have HC := Lib.hid (joinC_no (L := L) (m := m) hm)
    have HM := Lib.hid hm; clear hm
    have H := Lib.hid h; clear h
    go_enter Try.func12, Try.ntmps12
    go_wp2_with fail
    refine (may2 _ _ _ _ rfl).mono ?_; rintro e w1 ⟨rfl, f1⟩
    rw [HM.out]
    go_wp2_with fail
    go_ret
    have f : Fine w w1 := (by repeat (first | exact Fine.refl _ | assumption | refine Fine.alloc ?_ _ | refine Fine.drew ?_ | refine Fine.drewN ?_ _ | refine Fine.trans ?_ (by assumption) | (refine Fine.kept ?_ (by assumption) (by intro x hx; first | omega | (simp; omega))) | (refine Fine.setCell ?_ (by first | assumption | (simp; omega)) _)))
    exact ⟨ret_int HC.out.1.symm, by rw [HC.out.2]; exact H.out.fine f, Kept.of_fine f⟩
  · have HM := Lib.hid hm
    obtain ⟨n, rfl, hn⟩ := mayI_nat (by cases hx : mayI a <;> simp [hx] at hm ⊢)
    obtain ⟨k, rfl, hk⟩ := mayI_nat (a := b) (by cases hx : mayI b <;> simp [hx] at hm ⊢)
    have c0 := h.cell (i := n) (by omega)
    have c1 := h.cell (i := 4 + k) (by omega)
    have c2 := h.cell (i := 8 + n * 4 + k) (by omega)
    have c3 := h.most
    obtain ⟨o1, ho1⟩ : ∃ o, L.getD n false = o := ⟨_, rfl⟩
    obtain ⟨o2, ho2⟩ : ∃ o, L.getD (4 + k) false = o := ⟨_, rfl⟩
    obtain ⟨fl, hfl⟩ : ∃ o, L.getD (8 + n * 4 + k) false = o := ⟨_, rfl⟩
    rw [ho1] at c0
    rw [ho2] at c1
    rw [hfl] at c2
    have ho12 : (ownB L n && othB L k) = (o1 && o2) := by rw [← ho1, ← ho2]; rfl
    have hf' : flowB L n k = fl := hfl
    have HO := Lib.hid ho12
    have HF := Lib.hid hf'
    clear ho1 ho2 hfl ho12 hf'
    have H := Lib.hid h; clear h
    have hcase : o1 = false ∨ (o1 = true ∧ o2 = false) ∨ (o1 = true ∧ o2 = true ∧ fl = true) ∨ (o1 = true ∧ o2 = true ∧ fl = false ∧ m ≤ ((pairsN L 4).length : Int)) ∨ (o1 = true ∧ o2 = true ∧ fl = false ∧ ¬ m ≤ ((pairsN L 4).length : Int)) := by
      by_cases hl : m ≤ ((pairsN L 4).length : Int) <;> cases o1 <;> cases o2 <;> cases fl <;> simp [hl]
    rcases hcase with rfl | ⟨rfl, rfl⟩ | ⟨rfl, rfl, rfl⟩ | ⟨rfl, rfl, rfl, hl⟩ | ⟨rfl, rfl, rfl, hl⟩
    · have HC := Lib.hid (joinC_none (L := L) (m := m) hm HO.out)
      clear hm
      go_enter Try.func12, Try.ntmps12
      go_wp2_with fail
      refine (may2 _ _ _ _ rfl).mono ?_; rintro e w1 ⟨rfl, f1⟩
      rw [HM.out]
      have f : Fine w w1 := (by repeat (first | exact Fine.refl _ | assumption | refine Fine.alloc ?_ _ | refine Fine.drew ?_ | refine Fine.drewN ?_ _ | refine Fine.trans ?_ (by assumption) | (refine Fine.kept ?_ (by assumption) (by intro x hx; first | omega | (simp; omega))) | (refine Fine.setCell ?_ (by first | assumption | (simp; omega)) _)))
      have d0 : w1.cell? ⟨g, n, none⟩ = some (.bool false) := (f.cell (p := ⟨g, _, none⟩) hlt).trans c0
      go_wp2_with fail
      go_ret
      exact ⟨ret_int HC.out.1.symm, by rw [HC.out.2]; exact H.out.fine f, Kept.of_fine f⟩
    · have HC := Lib.hid (joinC_none (L := L) (m := m) hm HO.out)
      clear hm
      go_enter Try.func12, Try.ntmps12
      go_wp2_with fail
      refine (may2 _ _ _ _ rfl).mono ?_; rintro e w1 ⟨rfl, f1⟩
      rw [HM.out]
      have f : Fine w w1 := (by repeat (first | exact Fine.refl _ | assumption | refine Fine.alloc ?_ _ | refine Fine.drew ?_ | refine Fine.drewN ?_ _ | refine Fine.trans ?_ (by assumption) | (refine Fine.kept ?_ (by assumption) (by intro x hx; first | omega | (simp; omega))) | (refine Fine.setCell ?_ (by first | assumption | (simp; omega)) _)))
      have d0 : w1.cell? ⟨g, n, none⟩ = some (.bool true) := (f.cell (p := ⟨g, _, none⟩) hlt).trans c0
      have d1 : w1.cell? ⟨g, 4 + k, none⟩ = some (.bool false) := (f.cell (p := ⟨g, _, none⟩) hlt).trans c1
      go_wp2_with fail
      go_ret
      exact ⟨ret_int HC.out.1.symm, by rw [HC.out.2]; exact H.out.fine f, Kept.of_fine f⟩
    · have HC := Lib.hid (joinC_twice (L := L) (m := m) hm HO.out HF.out)
      clear hm
      go_enter Try.func12, Try.ntmps12
      go_wp2_with fail
      refine (may2 _ _ _ _ rfl).mono ?_; rintro e w1 ⟨rfl, f1⟩
      rw [HM.out]
      have f : Fine w w1 := (by repeat (first | exact Fine.refl _ | assumption | refine Fine.alloc ?_ _ | refine Fine.drew ?_ | refine Fine.drewN ?_ _ | refine Fine.trans ?_ (by assumption) | (refine Fine.kept ?_ (by assumption) (by intro x hx; first | omega | (simp; omega))) | (refine Fine.setCell ?_ (by first | assumption | (simp; omega)) _)))
      have d0 : w1.cell? ⟨g, n, none⟩ = some (.bool true) := (f.cell (p := ⟨g, _, none⟩) hlt).trans c0
      have d1 : w1.cell? ⟨g, 4 + k, none⟩ = some (.bool true) := (f.cell (p := ⟨g, _, none⟩) hlt).trans c1
      have d2 : w1.cell? ⟨g, 8 + n * 4 + k, none⟩ = some (.bool true) := (f.cell (p := ⟨g, _, none⟩) hlt).trans c2
      go_wp2_with fail
      go_ret
      exact ⟨ret_int HC.out.1.symm, by rw [HC.out.2]; exact H.out.fine f, Kept.of_fine f⟩
    all_goals
      first
        | have HC := Lib.hid (joinC_full (L := L) (m := m) hm HO.out HF.out hl)
        | have HC := Lib.hid (joinC_ok (L := L) (m := m) hm HO.out HF.out hl)
      clear hm
      go_enter Try.func12, Try.ntmps12
      go_wp2_with fail
      refine (may2 _ _ _ _ rfl).mono ?_; rintro e w1 ⟨rfl, f1⟩
      rw [HM.out]
      have f : Fine w w1 := (by repeat (first | exact Fine.refl _ | assumption | refine Fine.alloc ?_ _ | refine Fine.drew ?_ | refine Fine.drewN ?_ _ | refine Fine.trans ?_ (by assumption) | (refine Fine.kept ?_ (by assumption) (by intro x hx; first | omega | (simp; omega))) | (refine Fine.setCell ?_ (by first | assumption | (simp; omega)) _)))
      have d0 : w1.cell? ⟨g, n, none⟩ = some (.bool true) := (f.cell (p := ⟨g, _, none⟩) hlt).trans c0
      have d1 : w1.cell? ⟨g, 4 + k, none⟩ = some (.bool true) := (f.cell (p := ⟨g, _, none⟩) hlt).trans c1
      have d2 : w1.cell? ⟨g, 8 + n * 4 + k, none⟩ = some (.bool false) := (f.cell (p := ⟨g, _, none⟩) hlt).trans c2
      have d3 : w1.cell? ⟨g, 24, none⟩ = some (.int .i64 m) := (f.cell (p := ⟨g, _, none⟩) hlt).trans c3
      have H1 : Hid (PMB w1 g L m) := H.out.fine f
      go_wp2_with fail
      have hlt1 : g < w1.heap.size := H1.out.lt
      go_region_held3 (fun w' => w'.cell? ⟨g, 24, none⟩ = some (.int .i64 m)) (first | exact d3 | exact (f3.cell (p := ⟨g, 24, none⟩) hlt1).trans d3)
        (first | (go_at_call 13; refine (pairs_any g L m _ ?_).mono ?_; (exact H1.out.fine (by repeat (first | exact Fine.refl _ | assumption | refine Fine.alloc ?_ _ | refine Fine.drew ?_ | refine Fine.drewN ?_ _ | refine Fine.trans ?_ (by assumption) | (refine Fine.kept ?_ (by assumption) (by intro x hx; first | omega | (simp; omega))) | (refine Fine.setCell ?_ (by first | assumption | (simp; omega)) _)))); rintro e w3 ⟨A3, c3, rfl, ho3, f3⟩))
      have f13 : Fine w1 w3 := f3.of_drew
      have HO3 := Lib.hid ho3; clear ho3 f3
      have h3 := H1.out.fine f13
      have d5 : w3.cell? ⟨g, 8 + n * 4 + k, none⟩ = some (.bool false) := (f13.cell (p := ⟨g, _, none⟩) hlt1).trans d2
      have fr := h3.frozen (8 + n * 4 + k)
      have H3 := Lib.hid h3; clear h3
      have k13 : Kept (· = g) w w3 := Kept.of_fine (f.trans f13)
      go_wp2_with fail
      go_ret
    · exact ⟨ret_int HC.out.1.symm, by rw [HC.out.2]; exact H3.out, k13⟩
    · exact ⟨ret_int HC.out.1.symm, by rw [HC.out.2]; exact H3.out.set_ (by omega) true, k13.trans (by repeat (first | exact Kept.refl _ _ | assumption | (refine Kept.setIn ?_ (by simp) _) | refine Kept.alloc ?_ _ | refine Kept.drew ?_ | refine Kept.drewN ?_ _ | refine Kept.trans ?_ (by assumption) | refine Kept.trans ?_ (Kept.of_fine (by assumption))))⟩
end Go.Proofs.Ytbgdcpecpcmjdaa
