/- The laws SchedPicks, SchedBackups, SchedQuick walked. -/
import Derived.Test.YtaedkhfmcfcgbaaSched5
namespace Go.Proofs.Ytaedkhfmcfcgbaa
open Go.ChangeShapes Go.WideShapes Go.ChangeAt Go.RowKit
set_option linter.unusedVariables false

def ps2 : List Pth := [⟨true, false, 0, 0⟩, ⟨true, false, 0, 0⟩]
theorem picked2 : picked ps2 1 0 = [1] := by decide
theorem wakes_any (w : World) : Calls Try.prog 7 #[] w fun e w' => e = .returned (.bool true) ∧ Fine w w' := by
  go_enter Try.func7, Try.ntmps7
  go_wp2_with fail
  refine (pick_any 1 0 (some ⟨w.heap.size, 0, none⟩) 2 ps2 (by decide) _ (RS.ofBlk (Blk.newAt rfl) rfl rfl (by unfold maxLen; omega))).mono ?_; rintro e w1 ⟨A1, c1, rfl, h1, f1⟩
  rw [picked2] at h1 ⊢
  have H1 := Lib.hid h1; clear h1
  go_wp2_with fail
  refine (ints_any A1 (some ⟨w1.heap.size, 0, none⟩) c1 1 [1] [1] _ (H1.out.fine (by repeat (first | exact Fine.refl _ | assumption | refine Fine.alloc ?_ _ | refine Fine.drew ?_ | refine Fine.drewN ?_ _ | refine Fine.trans ?_ (by assumption) | (refine Fine.kept ?_ (by assumption) (by intro x hx; first | omega | (simp; omega))) | (refine Fine.setCell ?_ (by first | assumption | (simp; omega)) _)))) (RS.litI 1 rfl)).mono ?_; rintro e w2 ⟨rfl, f2⟩
  go_wp2_with fail
  go_ret
  exact ⟨rfl, (by repeat (first | exact Fine.refl _ | assumption | refine Fine.alloc ?_ _ | refine Fine.drew ?_ | refine Fine.drewN ?_ _ | refine Fine.trans ?_ (by assumption) | (refine Fine.kept ?_ (by assumption) (by intro x hx; first | omega | (simp; omega))) | (refine Fine.setCell ?_ (by first | assumption | (simp; omega)) _)))⟩

theorem lawSchedPicks (w : World) (how : Int) (wh : (Lit.int .i64 how).wf = true) (last : Int) (wl : (Lit.int .i64 last).wf = true) (A : Option Addr) (len c : Nat) (ps : List Pth) (hp : ps.length = len ∧ RS layP w A c ps ∧ ∀ q ∈ ps, q.wf) :
    Calls Try.prog 3 #[.int .i64 how, .int .i64 last, .slice A len c] w fun e w' => e = .returned (.bool true) ∧ Below w.heap.size w w' := by
  show Calls _ _ _ _ fun e w' => e = .returned (.bool true) ∧ Fine w w'
  obtain ⟨rfl, h, _⟩ := hp
  clear wh wl
  by_cases hm : ps.length ≤ 50
  · go_enter Try.func3, Try.ntmps3
    go_wp2_with fail
    refine (wakes_any _).mono ?_; rintro e w1 ⟨rfl, f1⟩
    go_wp2_with fail
    refine (able_any A c ps hm _ (h.fine (by repeat (first | exact Fine.refl _ | assumption | refine Fine.alloc ?_ _ | refine Fine.drew ?_ | refine Fine.drewN ?_ _ | refine Fine.trans ?_ (by assumption) | (refine Fine.kept ?_ (by assumption) (by intro x hx; first | omega | (simp; omega))) | (refine Fine.setCell ?_ (by first | assumption | (simp; omega)) _))))).mono ?_; rintro e w2 ⟨A2, c2, rfl, h2, f2⟩
    have H2 := Lib.hid h2.rs.1; clear h2
    go_wp2_with fail
    refine (refAble_any A c ps hm _ (h.fine (by repeat (first | exact Fine.refl _ | assumption | refine Fine.alloc ?_ _ | refine Fine.drew ?_ | refine Fine.drewN ?_ _ | refine Fine.trans ?_ (by assumption) | (refine Fine.kept ?_ (by assumption) (by intro x hx; first | omega | (simp; omega))) | (refine Fine.setCell ?_ (by first | assumption | (simp; omega)) _))))).mono ?_; rintro e w3 ⟨A3, c3, rfl, h3, f3⟩
    have H3 := Lib.hid h3.rs.1; clear h3
    go_wp2_with fail
    refine (ints_any A2 A3 c2 c3 _ _ _ (H2.out.fine (by repeat (first | exact Fine.refl _ | assumption | refine Fine.alloc ?_ _ | refine Fine.drew ?_ | refine Fine.drewN ?_ _ | refine Fine.trans ?_ (by assumption) | (refine Fine.kept ?_ (by assumption) (by intro x hx; first | omega | (simp; omega))) | (refine Fine.setCell ?_ (by first | assumption | (simp; omega)) _)))) H3.out).mono ?_; rintro e w4 ⟨rfl, f4⟩
    simp only [decide_true]
    go_wp2_with fail
    refine (pick_any how last A c ps hm _ (h.fine (by repeat (first | exact Fine.refl _ | assumption | refine Fine.alloc ?_ _ | refine Fine.drew ?_ | refine Fine.drewN ?_ _ | refine Fine.trans ?_ (by assumption) | (refine Fine.kept ?_ (by assumption) (by intro x hx; first | omega | (simp; omega))) | (refine Fine.setCell ?_ (by first | assumption | (simp; omega)) _))))).mono ?_; rintro e w5 ⟨A5, c5, rfl, h5, f5⟩
    have H5 := Lib.hid h5; clear h5
    go_wp2_with fail
    refine (refPick_any how last A c ps hm _ (h.fine (by repeat (first | exact Fine.refl _ | assumption | refine Fine.alloc ?_ _ | refine Fine.drew ?_ | refine Fine.drewN ?_ _ | refine Fine.trans ?_ (by assumption) | (refine Fine.kept ?_ (by assumption) (by intro x hx; first | omega | (simp; omega))) | (refine Fine.setCell ?_ (by first | assumption | (simp; omega)) _))))).mono ?_; rintro e w6 ⟨A6, c6, rfl, h6, f6⟩
    have H6 := Lib.hid h6; clear h6
    go_wp2_with fail
    refine (ints_any A5 A6 c5 c6 _ _ _ (H5.out.fine (by repeat (first | exact Fine.refl _ | assumption | refine Fine.alloc ?_ _ | refine Fine.drew ?_ | refine Fine.drewN ?_ _ | refine Fine.trans ?_ (by assumption) | (refine Fine.kept ?_ (by assumption) (by intro x hx; first | omega | (simp; omega))) | (refine Fine.setCell ?_ (by first | assumption | (simp; omega)) _)))) H6.out).mono ?_; rintro e w7 ⟨rfl, f7⟩
    simp only [decide_true]
    go_wp2_with fail
    go_ret
    exact ⟨rfl, (by repeat (first | exact Fine.refl _ | assumption | refine Fine.alloc ?_ _ | refine Fine.drew ?_ | refine Fine.drewN ?_ _ | refine Fine.trans ?_ (by assumption) | (refine Fine.kept ?_ (by assumption) (by intro x hx; first | omega | (simp; omega))) | (refine Fine.setCell ?_ (by first | assumption | (simp; omega)) _)))⟩
  · go_enter Try.func3, Try.ntmps3
    go_wp2_with fail
    refine (wakes_any _).mono ?_; rintro e w1 ⟨rfl, f1⟩
    go_wp2_with fail
    go_ret
    exact ⟨rfl, (by repeat (first | exact Fine.refl _ | assumption | refine Fine.alloc ?_ _ | refine Fine.drew ?_ | refine Fine.drewN ?_ _ | refine Fine.trans ?_ (by assumption) | (refine Fine.kept ?_ (by assumption) (by intro x hx; first | omega | (simp; omega))) | (refine Fine.setCell ?_ (by first | assumption | (simp; omega)) _)))⟩

theorem rem3 (h : Int) (h0 : 0 ≤ h) : h % 3 = 0 ∨ h % 3 = 1 ∨ h % 3 = 2 := by omega
set_option maxHeartbeats 1000000 in
theorem lawSchedBackups (w : World) (how : Int) (wh : (Lit.int .u8 how).wf = true) (last : Int) (wl : (Lit.int .i64 last).wf = true) (A : Option Addr) (len c : Nat) (ps : List Pth) (hp : ps.length = len ∧ RS layP w A c ps ∧ ∀ q ∈ ps, q.wf) :
    Calls Try.prog 5 #[.int .u8 how, .int .i64 last, .slice A len c] w fun e w' => e = .returned (.bool true) ∧ Below w.heap.size w w' := by
  show Calls _ _ _ _ fun e w' => e = .returned (.bool true) ∧ Fine w w'
  obtain ⟨rfl, h, _⟩ := hp
  obtain ⟨q1, q2⟩ := Go.bounds_u8 wh
  clear wh wl
  by_cases hm : ps.length ≤ 50
  · go_enter Try.func5, Try.ntmps5
    go_wp2_with fail
    refine (wakes_any _).mono ?_; rintro e w1 ⟨rfl, f1⟩
    go_wp2_with fail
    go_loopw [7, 19] (fun o i wr => ∃ k : Nat, k ≤ ps.length ∧ i = .int .i64 k ∧ o = .bool (others (ps.take k)) ∧ Fine w1 wr) (fun _ i _ => ps.length - (intOf i).toNat)
    case atStart => exact ⟨0, Nat.zero_le _, rfl, rfl, (by repeat (first | exact Fine.refl _ | assumption | refine Fine.alloc ?_ _ | refine Fine.drew ?_ | refine Fine.drewN ?_ _ | refine Fine.trans ?_ (by assumption) | (refine Fine.kept ?_ (by assumption) (by intro x hx; first | omega | (simp; omega))) | (refine Fine.setCell ?_ (by first | assumption | (simp; omega)) _)))⟩
    case round =>
      obtain ⟨k, hk, rfl, rfl, hf⟩ := hrel
      by_cases hlt : k < ps.length
      · obtain ⟨b, off, r, bk, s, l, hp0, rfl, hb, c0, c1, c2, c3⟩ := ((h.fine f1).fine hf).atP hlt
        have hst : others (ps.take (k + 1)) = (others (ps.take k) || Pth.main ⟨r, bk, s, l⟩) := by
          have e : ps.take (k + 1) = ps.take k ++ [ps.getD k Pth.none] := by rw [List.take_succ_eq_append_getElem hlt]; simp [List.getD, hlt]
          rw [e, hp0]
          unfold others
          simp
        obtain ⟨o, ho⟩ : ∃ o, others (ps.take k) = o := ⟨_, rfl⟩
        rw [ho] at hst ⊢
        have HP := Lib.hid hp0; clear hp0
        have HST := Lib.hid hst; clear hst
        have HO := Lib.hid ho; clear ho
        cases o <;> cases r <;> cases bk
        all_goals
          go_wp2_with fail
          go_roundw
          case rel => exact ⟨k + 1, by omega, by go_num, by rw [HST.out]; rfl, (by repeat (first | exact Fine.refl _ | assumption | refine Fine.alloc ?_ _ | refine Fine.drew ?_ | refine Fine.drewN ?_ _ | refine Fine.trans ?_ (by assumption) | (refine Fine.kept ?_ (by assumption) (by intro x hx; first | omega | (simp; omega))) | (refine Fine.setCell ?_ (by first | assumption | (simp; omega)) _)))⟩
          case measure => simp [intOf]; omega
      · have he : k = ps.length := by omega
        have hoo : others (ps.take k) = others ps := by rw [he, List.take_length]
        rw [hoo]
        obtain ⟨o, ho⟩ : ∃ o, others ps = o := ⟨_, rfl⟩
        rw [ho]
        have HO := Lib.hid ho; clear ho hoo he
        go_wp2_with fail
        obtain ⟨hw, hhw⟩ : ∃ hw, how % 3 = hw := ⟨_, rfl⟩
        simp only [hhw]
        clear hhw
        refine (pick_any hw last A c ps hm _ (h.fine (by repeat (first | exact Fine.refl _ | assumption | refine Fine.alloc ?_ _ | refine Fine.drew ?_ | refine Fine.drewN ?_ _ | refine Fine.trans ?_ (by assumption) | (refine Fine.kept ?_ (by assumption) (by intro x hx; first | omega | (simp; omega))) | (refine Fine.setCell ?_ (by first | assumption | (simp; omega)) _))))).mono ?_; rintro e w5 ⟨A5, c5, rfl, h5, f5⟩
        have hab : ∀ x ∈ picked ps hw last, ∃ i : Nat, i < ps.length ∧ x = (i : Int) ∧ okAt ps i = true := fun x hx => ables_mem (picked_able hx)
        generalize picked ps hw last = xs at h5 hab
        have hxm := h5.max
        have hxl := h5.le
        unfold maxLen at hxm
        have H5 := Lib.hid h5; clear h5
        have HAB := Lib.hid hab; clear hab
        go_wp2_with fail
        go_loopw [41] (fun i wq => ∃ k : Nat, k ≤ xs.length ∧ i = .int .i64 k ∧ Fine w5 wq) (fun i _ => xs.length - (intOf i).toNat)
        case atStart => exact ⟨0, Nat.zero_le _, rfl, (by repeat (first | exact Fine.refl _ | assumption | refine Fine.alloc ?_ _ | refine Fine.drew ?_ | refine Fine.drewN ?_ _ | refine Fine.trans ?_ (by assumption) | (refine Fine.kept ?_ (by assumption) (by intro x hx; first | omega | (simp; omega))) | (refine Fine.setCell ?_ (by first | assumption | (simp; omega)) _)))⟩
        case round =>
          obtain ⟨k2, hk2, rfl, hf2⟩ := hrel
          by_cases hlt2 : k2 < xs.length
          · obtain ⟨x, hx, hxe, hok⟩ := HAB.out _ (getD_mem xs k2 hlt2)
            obtain ⟨b5, o5, rfl, hb5, e5⟩ := (H5.out.fine hf2).atI hlt2
            rw [hxe] at e5
            clear hxe
            obtain ⟨b, off, r, bk, s, l, hp0, rfl, hb, c0, c1, c2, c3⟩ := ((((h.fine f1).fine hf).fine f5).fine hf2).atP hx
            unfold okAt at hok
            rw [hp0, HO.out] at hok
            clear hp0
            have hr : r = true := by cases r <;> simp [Pth.able] at hok ⊢
            subst hr
            have hl4 : l < 4 := by simp [Pth.able] at hok; exact hok.1
            have hor : o = false ∨ bk = false := by cases o <;> cases bk <;> simp [Pth.able] at hok ⊢
            have HOK := Lib.hid hok; clear hok
            rcases hor with rfl | rfl
            · cases bk
              all_goals
                go_wp2_with fail
                go_roundw
                case rel => exact ⟨k2 + 1, by omega, by go_num, (by repeat (first | exact Fine.refl _ | assumption | refine Fine.alloc ?_ _ | refine Fine.drew ?_ | refine Fine.drewN ?_ _ | refine Fine.trans ?_ (by assumption) | (refine Fine.kept ?_ (by assumption) (by intro x hx; first | omega | (simp; omega))) | (refine Fine.setCell ?_ (by first | assumption | (simp; omega)) _)))⟩
                case measure => simp [intOf]; omega
            · go_wp2_with fail
              go_roundw
              case rel => exact ⟨k2 + 1, by omega, by go_num, (by repeat (first | exact Fine.refl _ | assumption | refine Fine.alloc ?_ _ | refine Fine.drew ?_ | refine Fine.drewN ?_ _ | refine Fine.trans ?_ (by assumption) | (refine Fine.kept ?_ (by assumption) (by intro x hx; first | omega | (simp; omega))) | (refine Fine.setCell ?_ (by first | assumption | (simp; omega)) _)))⟩
              case measure => simp [intOf]; omega
          · go_wp2_with fail
            go_ret
            exact ⟨rfl, (by repeat (first | exact Fine.refl _ | assumption | refine Fine.alloc ?_ _ | refine Fine.drew ?_ | refine Fine.drewN ?_ _ | refine Fine.trans ?_ (by assumption) | (refine Fine.kept ?_ (by assumption) (by intro x hx; first | omega | (simp; omega))) | (refine Fine.setCell ?_ (by first | assumption | (simp; omega)) _)))⟩
  · go_enter Try.func5, Try.ntmps5
    go_wp2_with fail
    refine (wakes_any _).mono ?_; rintro e w1 ⟨rfl, f1⟩
    go_wp2_with fail
    go_ret
    exact ⟨rfl, (by repeat (first | exact Fine.refl _ | assumption | refine Fine.alloc ?_ _ | refine Fine.drew ?_ | refine Fine.drewN ?_ _ | refine Fine.trans ?_ (by assumption) | (refine Fine.kept ?_ (by assumption) (by intro x hx; first | omega | (simp; omega))) | (refine Fine.setCell ?_ (by first | assumption | (simp; omega)) _)))⟩

set_option maxHeartbeats 1000000 in
theorem lawSchedQuick (w : World) (A : Option Addr) (len c : Nat) (ps : List Pth) (hp : ps.length = len ∧ RS layP w A c ps ∧ ∀ q ∈ ps, q.wf) :
    Calls Try.prog 6 #[.slice A len c] w fun e w' => e = .returned (.bool true) ∧ Below w.heap.size w w' := by
  show Calls _ _ _ _ fun e w' => e = .returned (.bool true) ∧ Fine w w'
  obtain ⟨rfl, h, _⟩ := hp
  by_cases hm : ps.length ≤ 50
  · have hin := ables_in ps ps.length (Nat.le_refl _)
    have hall := ables_le ps ps.length
    have hpa := Lib.hid (picked_all (ps := ps) (last := 3))
    have hpn : ables ps ps.length = [] → picked ps 0 0 = [] := fun e => picked_none (.inl e)
    have hpq : ables ps ps.length ≠ [] → picked ps 0 0 = [least (smAt ps) (ables ps ps.length) (ables ps ps.length).length] := picked_quick
    generalize hxs : ables ps ps.length = xs at hin hall hpa hpn hpq
    have HXS := Lib.hid hxs; clear hxs
    go_enter Try.func6, Try.ntmps6
    go_wp2_with fail
    refine (wakes_any _).mono ?_; rintro e w1 ⟨rfl, f1⟩
    go_wp2_with fail
    refine (refAble_any A c ps hm _ (h.fine (by repeat (first | exact Fine.refl _ | assumption | refine Fine.alloc ?_ _ | refine Fine.drew ?_ | refine Fine.drewN ?_ _ | refine Fine.trans ?_ (by assumption) | (refine Fine.kept ?_ (by assumption) (by intro x hx; first | omega | (simp; omega))) | (refine Fine.setCell ?_ (by first | assumption | (simp; omega)) _))))).mono ?_; rintro e w2 ⟨A2, c2, rfl, h2, f2⟩
    rw [HXS.out] at h2 ⊢
    have hx1 := h2.rs.1.max
    have hx2 := h2.rs.1.le
    unfold maxLen at hx1
    have H2 := Lib.hid h2.rs.1; clear h2
    go_wp2_with fail
    refine (pick_any 0 0 A c ps hm _ (h.fine (by repeat (first | exact Fine.refl _ | assumption | refine Fine.alloc ?_ _ | refine Fine.drew ?_ | refine Fine.drewN ?_ _ | refine Fine.trans ?_ (by assumption) | (refine Fine.kept ?_ (by assumption) (by intro x hx; first | omega | (simp; omega))) | (refine Fine.setCell ?_ (by first | assumption | (simp; omega)) _))))).mono ?_; rintro e w3 ⟨A3, c3, rfl, h3, f3⟩
    by_cases hx0 : xs = []
    · rw [hpn hx0] at h3 ⊢
      have HP := Lib.hid hpn; clear hpn
      have HQ := Lib.hid hpq; clear hpq
      subst hx0
      have H3 := Lib.hid h3; clear h3
      go_wp2_with fail
      go_loopw [25] (fun i wq => i = .int .i64 0 ∧ Fine w3 wq) (fun i _ => 0)
      case atStart => exact ⟨rfl, (by repeat (first | exact Fine.refl _ | assumption | refine Fine.alloc ?_ _ | refine Fine.drew ?_ | refine Fine.drewN ?_ _ | refine Fine.trans ?_ (by assumption) | (refine Fine.kept ?_ (by assumption) (by intro x hx; first | omega | (simp; omega))) | (refine Fine.setCell ?_ (by first | assumption | (simp; omega)) _)))⟩
      case round =>
        obtain ⟨rfl, hf2⟩ := hrel
        go_wp2_with fail
        refine (pick_any 2 3 A c ps hm _ (h.fine (by repeat (first | exact Fine.refl _ | assumption | refine Fine.alloc ?_ _ | refine Fine.drew ?_ | refine Fine.drewN ?_ _ | refine Fine.trans ?_ (by assumption) | (refine Fine.kept ?_ (by assumption) (by intro x hx; first | omega | (simp; omega))) | (refine Fine.setCell ?_ (by first | assumption | (simp; omega)) _))))).mono ?_; rintro e w5 ⟨A5, c5, rfl, h5, f5⟩
        rw [hpa.out] at h5 ⊢
        have H5 := Lib.hid h5; clear h5
        go_wp2_with fail
        refine (ints_any A5 A2 c5 c2 [] [] _ H5.out (H2.out.fine (by repeat (first | exact Fine.refl _ | assumption | refine Fine.alloc ?_ _ | refine Fine.drew ?_ | refine Fine.drewN ?_ _ | refine Fine.trans ?_ (by assumption) | (refine Fine.kept ?_ (by assumption) (by intro x hx; first | omega | (simp; omega))) | (refine Fine.setCell ?_ (by first | assumption | (simp; omega)) _))))).mono ?_; rintro e w7 ⟨rfl, f7⟩
        simp only [decide_true]
        go_wp2_with fail
        go_ret
        exact ⟨rfl, (by repeat (first | exact Fine.refl _ | assumption | refine Fine.alloc ?_ _ | refine Fine.drew ?_ | refine Fine.drewN ?_ _ | refine Fine.trans ?_ (by assumption) | (refine Fine.kept ?_ (by assumption) (by intro x hx; first | omega | (simp; omega))) | (refine Fine.setCell ?_ (by first | assumption | (simp; omega)) _)))⟩
    · have hpos : 0 < xs.length := List.length_pos_iff.2 hx0
      rw [hpq hx0] at h3 ⊢
      obtain ⟨y, hy0, hylt⟩ := least_in hin (smAt ps) xs.length hpos (Nat.le_refl _)
      have hmin : ∀ x ∈ xs, smAt ps y ≤ smAt ps x := by rw [← hy0]; exact fun x hx => least_le _ _ x hx
      rw [hy0] at h3 ⊢
      have HY := Lib.hid hy0; clear hy0
      have HP := Lib.hid hpn; clear hpn
      have HQ := Lib.hid hpq; clear hpq
      have HM := Lib.hid hmin; clear hmin
      have HX0 := Lib.hid hx0; clear hx0
      obtain ⟨b3, o3, rfl, hb3, e3⟩ := h3.atI (i := 0) (by simp)
      have e3' : w3.cell? ⟨b3, o3, none⟩ = some (.int .i64 y) := e3
      clear e3
      have H3 := Lib.hid h3; clear h3
      have hgt : decide ((0 : Int) < xs.length) = true := by simp; omega
      go_wp2_with fail
      go_loopw [25] (fun i wq => ∃ k : Nat, k ≤ xs.length ∧ i = .int .i64 k ∧ Fine w3 wq) (fun i _ => xs.length - (intOf i).toNat)
      case atStart => exact ⟨0, Nat.zero_le _, rfl, (by repeat (first | exact Fine.refl _ | assumption | refine Fine.alloc ?_ _ | refine Fine.drew ?_ | refine Fine.drewN ?_ _ | refine Fine.trans ?_ (by assumption) | (refine Fine.kept ?_ (by assumption) (by intro x hx; first | omega | (simp; omega))) | (refine Fine.setCell ?_ (by first | assumption | (simp; omega)) _)))⟩
      case round =>
        obtain ⟨k2, hk2, rfl, hf2⟩ := hrel
        by_cases hlt2 : k2 < xs.length
        · obtain ⟨x, hxe, hxlt⟩ := hin.at_ hlt2
          have hle := HM.out _ (getD_mem xs k2 hlt2)
          obtain ⟨b5, o5, rfl, hb5, e5⟩ := ((H2.out.fine f3).fine hf2).atI hlt2
          rw [hxe] at e5 hle
          clear hxe
          obtain ⟨b, off, rfl, hb⟩ := h.blockP (by omega)
          have hw : Fine w wr := (by repeat (first | exact Fine.refl _ | assumption | refine Fine.alloc ?_ _ | refine Fine.drew ?_ | refine Fine.drewN ?_ _ | refine Fine.trans ?_ (by assumption) | (refine Fine.kept ?_ (by assumption) (by intro x hx; first | omega | (simp; omega))) | (refine Fine.setCell ?_ (by first | assumption | (simp; omega)) _)))
          obtain ⟨r', bk', s', l', hp0, _, _, p2, _⟩ := (h.fine hw).cellsP hxlt
          obtain ⟨r'', bk'', s'', l'', hp0', _, _, q2, _⟩ := (h.fine hw).cellsP hylt
          have hs1 : smAt ps x = s' := by unfold smAt; rw [Int.toNat_natCast, hp0]
          have hs2 : smAt ps y = s'' := by unfold smAt; rw [Int.toNat_natCast, hp0']
          rw [hs1, hs2] at hle
          clear hp0 hp0' hs1 hs2
          have hlt' : decide (s' < s'') = false := by simp; omega
          have e3 := (hf2.cell (p := ⟨b3, o3, none⟩) hb3).trans e3'
          have i2 : (x : Int) < (ps.length : Int) := by omega
          have i3 : (y : Int) < (ps.length : Int) := by omega
          go_wp2_with fail
          go_quiet (fail)
          go_wp2_with fail
          go_roundw
          case rel => exact ⟨k2 + 1, by omega, by go_num, (by repeat (first | exact Fine.refl _ | assumption | refine Fine.alloc ?_ _ | refine Fine.drew ?_ | refine Fine.drewN ?_ _ | refine Fine.trans ?_ (by assumption) | (refine Fine.kept ?_ (by assumption) (by intro x hx; first | omega | (simp; omega))) | (refine Fine.setCell ?_ (by first | assumption | (simp; omega)) _)))⟩
          case measure => simp [intOf]; omega
        · go_wp2_with fail
          refine (pick_any 2 3 A c ps hm _ (h.fine (by repeat (first | exact Fine.refl _ | assumption | refine Fine.alloc ?_ _ | refine Fine.drew ?_ | refine Fine.drewN ?_ _ | refine Fine.trans ?_ (by assumption) | (refine Fine.kept ?_ (by assumption) (by intro x hx; first | omega | (simp; omega))) | (refine Fine.setCell ?_ (by first | assumption | (simp; omega)) _))))).mono ?_; rintro e w5 ⟨A5, c5, rfl, h5, f5⟩
          rw [hpa.out] at h5 ⊢
          have H5 := Lib.hid h5; clear h5
          go_wp2_with fail
          refine (ints_any A5 A2 c5 c2 xs xs _ H5.out (H2.out.fine (by repeat (first | exact Fine.refl _ | assumption | refine Fine.alloc ?_ _ | refine Fine.drew ?_ | refine Fine.drewN ?_ _ | refine Fine.trans ?_ (by assumption) | (refine Fine.kept ?_ (by assumption) (by intro x hx; first | omega | (simp; omega))) | (refine Fine.setCell ?_ (by first | assumption | (simp; omega)) _))))).mono ?_; rintro e w7 ⟨rfl, f7⟩
          simp only [decide_true]
          go_wp2_with fail
          go_ret
          exact ⟨rfl, (by repeat (first | exact Fine.refl _ | assumption | refine Fine.alloc ?_ _ | refine Fine.drew ?_ | refine Fine.drewN ?_ _ | refine Fine.trans ?_ (by assumption) | (refine Fine.kept ?_ (by assumption) (by intro x hx; first | omega | (simp; omega))) | (refine Fine.setCell ?_ (by first | assumption | (simp; omega)) _)))⟩
  · go_enter Try.func6, Try.ntmps6
    go_wp2_with fail
    refine (wakes_any _).mono ?_; rintro e w1 ⟨rfl, f1⟩
    go_wp2_with fail
    go_ret
    exact ⟨rfl, (by repeat (first | exact Fine.refl _ | assumption | refine Fine.alloc ?_ _ | refine Fine.drew ?_ | refine Fine.drewN ?_ _ | refine Fine.trans ?_ (by assumption) | (refine Fine.kept ?_ (by assumption) (by intro x hx; first | omega | (simp; omega))) | (refine Fine.setCell ?_ (by first | assumption | (simp; omega)) _)))⟩
end Go.Proofs.Ytaedkhfmcfcgbaa
