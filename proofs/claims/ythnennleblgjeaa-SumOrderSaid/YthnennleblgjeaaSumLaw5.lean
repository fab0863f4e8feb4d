/- The law SumOrder. -/
import Derived.Test.YthnennleblgjeaaSumLaw
import Derived.Test.YthnennleblgjeaaWords
import Derived.Deep.RegionLaw
namespace Go.Proofs.Ythnennleblgjeaa
open Go.ChangeShapes Go.WideShapes Go.ChangeAt Go.RowKit
set_option linter.unusedVariables false

/-- Numbers of 16 bits as bytes, the higher one first. -/
def wb : List Int → List Int
  | [] => []
  | v :: l => v / 256 :: v % 256 :: wb l
theorem wb_append (a b : List Int) : wb (a ++ b) = wb a ++ wb b := by
  induction a with
  | nil => rfl
  | cons x a ih => simp [wb, ih]
theorem wb_length (a : List Int) : (wb a).length = 2 * a.length := by
  induction a with
  | nil => rfl
  | cons x a ih => simp [wb, ih]; omega
theorem wb_take (l : List Int) (k : Nat) (hk : k < l.length) (x : Int) (hx : l.getD k 0 = x) : wb (l.take (k + 1)) = wb (l.take k) ++ [x / 256, x % 256] := by
  have e : l.take (k + 1) = l.take k ++ [x] := by
    rw [List.take_add_one]
    subst hx
    simp [List.getD, hk]
  rw [e, wb_append]; rfl
theorem wb_bytes {l : List Int} (h : Words l) : Bytes (wb l) := by
  induction l with
  | nil => exact Bytes.nil
  | cons x l ih =>
    have hx := h x (by simp)
    intro y hy
    simp only [wb, List.mem_cons] at hy
    rcases hy with rfl | rfl | hy
    · omega
    · omega
    · exact ih (fun z hz => h z (by simp [hz])) y hy
theorem great_wb (l : List Int) : great false (wb l) = l.sum := by
  induction l with
  | nil => rfl
  | cons x l ih => simp only [wb, great, List.sum_cons, Bool.not_false, Bool.not_true, ih]; simp; omega
theorem sum_set (l : List Int) (i : Nat) (hi : i < l.length) (x : Int) : (l.set i x).sum = l.sum - l.getD i 0 + x := by
  induction l generalizing i with
  | nil => simp at hi
  | cons y l ih =>
    cases i with
    | zero => simp; omega
    | succ i =>
      have := ih i (by simpa using hi)
      simp only [List.set_cons_succ, List.sum_cons, this, List.getD_cons_succ]
      omega
/-- Two change places. -/
theorem sum_swap (l : List Int) (a c : Nat) (ha : a < l.length) (hc : c < l.length) : ((l.set a (l.getD c 0)).set c (l.getD a 0)).sum = l.sum := by
  rw [sum_set _ _ (by simpa using hc), sum_set _ _ ha]
  by_cases e : a = c
  · subst e
    simp [List.getD, ha]
  · have : (l.set a (l.getD c 0)).getD c 0 = l.getD c 0 := by simp [List.getD, e]
    rw [this]; omega
theorem wb_swap (l : List Int) (a c : Nat) (ha : a < l.length) (hc : c < l.length) : sumOf (wb ((l.set a (l.getD c 0)).set c (l.getD a 0))) = sumOf (wb l) := by
  unfold sumOf; rw [great_wb, great_wb, sum_swap l a c ha hc]

set_option maxHeartbeats 1000000 in
theorem lawSumOrder (w : World) (a : Option Addr) (len cap : Nat) (zs : List Int) (hz : IntsIn .u16 w a len cap zs) (i : Int) (wi : (Lit.int .u8 i).wf = true) (j : Int) (wj : (Lit.int .u8 j).wf = true) :
    Calls Try.prog 4 #[.slice a len cap, .int .u8 i, .int .u8 j] w fun e w' => e = .returned (.bool true) ∧ Below w.heap.size w w' := by
  show Calls _ _ _ _ fun e w' => e = .returned (.bool true) ∧ Fine w w'
  have hi := bounds_u8 wi
  have hj := bounds_u8 wj
  have hb := US.of_ints hz
  have hl : zs.length = len := hz.2.2.1
  subst hl
  have HB := Lib.hid hb
  clear hb hz wi wj
  by_cases h0 : zs.length = 0
  · have h0b : ((zs.length : Int) == 0) = true := by rw [h0]; rfl
    go_enter Try.func4, Try.ntmps4
    go_wp2_with fail
    refine (sum_wakes _).mono ?_; rintro e w1 ⟨rfl, f1⟩
    go_wp2
    go_ret
    exact ⟨rfl, (by repeat (first | exact Fine.refl _ | assumption | refine Fine.alloc ?_ _ | refine Fine.drew ?_ | refine Fine.drewN ?_ _ | refine Fine.trans ?_ (by assumption) | (refine Fine.kept ?_ (by assumption) (by intro x hx; first | omega | (simp; omega))) | (refine Fine.setCell ?_ (by first | assumption | (simp; omega)) _)))⟩
  · have h0b : ((zs.length : Int) == 0) = false := by rw [beq_eq_false_iff_ne]; omega
    by_cases h5 : 200 < zs.length
    · have h5' : (200 : Int) < (zs.length : Int) := by omega
      go_enter Try.func4, Try.ntmps4
      go_wp2_with fail
      refine (sum_wakes _).mono ?_; rintro e w1 ⟨rfl, f1⟩
      go_wp2
      go_ret
      exact ⟨rfl, (by repeat (first | exact Fine.refl _ | assumption | refine Fine.alloc ?_ _ | refine Fine.drew ?_ | refine Fine.drewN ?_ _ | refine Fine.trans ?_ (by assumption) | (refine Fine.kept ?_ (by assumption) (by intro x hx; first | omega | (simp; omega))) | (refine Fine.setCell ?_ (by first | assumption | (simp; omega)) _)))⟩
    · have hle : zs.length ≤ 200 := by omega
      have hle' : ¬ ((200 : Int) < (zs.length : Int)) := by omega
      obtain ⟨I, hI⟩ : ∃ I : Nat, i.toNat % zs.length = I := ⟨_, rfl⟩
      obtain ⟨J, hJ⟩ : ∃ J : Nat, j.toNat % zs.length = J := ⟨_, rfl⟩
      have hI1 : I < zs.length := by rw [← hI]; exact Nat.mod_lt _ (by omega)
      have hJ1 : J < zs.length := by rw [← hJ]; exact Nat.mod_lt _ (by omega)
      have hqi : i % (zs.length : Int) = (I : Int) := by rw [← hI, Int.natCast_emod, Int.toNat_of_nonneg hi.1]
      have hqj : j % (zs.length : Int) = (J : Int) := by rw [← hJ, Int.natCast_emod, Int.toNat_of_nonneg hj.1]
      have HSW := Lib.hid (wb_swap zs I J hI1 hJ1)
      clear hI hJ
      go_enter Try.func4, Try.ntmps4
      go_wp2_with fail
      refine (sum_wakes _).mono ?_; rintro e w1 ⟨rfl, f1⟩
      go_wp2_with (at_builtin; refine wpList_appV rfl (.tmp 23) (.tmp 24) rfl w1.heap.size _ _ rfl (OwnU.empty w1 (Nat.le_refl _)) a _ cap zs rfl rfl (HB.out.fine (by repeat (first | exact Fine.refl _ | assumption | refine Fine.alloc ?_ _ | refine Fine.drew ?_ | refine Fine.drewN ?_ _ | refine Fine.trans ?_ (by assumption) | (refine Fine.kept ?_ (by assumption) (by intro x hx; first | omega | (simp; omega))) | (refine Fine.setCell ?_ (by first | assumption | (simp; omega)) _)))) (by first | omega | (simp; done) | (simp; omega)) (by first | omega | (simp; done) | (simp; omega)) ?_; intro A2 c2 w2 O2 K2 k2; simp only [List.nil_append, List.length_nil, Nat.zero_add] at O2 K2; have F2 : Fine w1 w2 := Fine.kept (Fine.alloc (Fine.refl w1) _) k2 (fun x hx => by omega))
      go_region
      obtain ⟨g, rfl, hg1, hg2⟩ := O2.out.head (by omega)
      have hfI := O2.out.frozen I
      have hfJ := O2.out.frozen J
      obtain ⟨bI, oI, eI, _, hcI⟩ := K2.out.at_ hI1
      obtain ⟨bJ, oJ, eJ, _, hcJ⟩ := K2.out.at_ hJ1
      injection eI with eI
      injection eI with e1 e2 _
      subst e1 e2
      injection eJ with eJ
      injection eJ with e1 e2 _
      subst e1 e2
      rw [Nat.zero_add] at hcI hcJ
      have hbI := O2.out.1.getD I
      have hbJ := O2.out.1.getD J
      obtain ⟨xI, hxI⟩ : ∃ x, zs.getD I 0 = x := ⟨_, rfl⟩
      obtain ⟨xJ, hxJ⟩ : ∃ x, zs.getD J 0 = x := ⟨_, rfl⟩
      rw [hxI] at hcI hbI HSW
      rw [hxJ] at hcJ hbJ HSW
      clear hxI hxJ
      have O3 := Lib.hid (O2.out.stored I (z := xJ) hbJ)
      have O4 := Lib.hid (O3.out.stored J (z := xI) hbI)
      obtain ⟨b3, o3, e3, _, hcJ2⟩ := O3.out.bs.1.at_ (k := J) (by simp; omega)
      injection e3 with e3
      injection e3 with e1 e2 _
      subst e1 e2
      rw [Nat.zero_add] at hcJ2
      have hfJ2 := O3.out.frozen J
      obtain ⟨y, hy⟩ : ∃ y, (zs.set I xJ).getD J 0 = y := ⟨_, rfl⟩
      rw [hy] at hcJ2
      clear hy
      obtain ⟨M, hM⟩ : ∃ M, (zs.set I xJ).set J xI = M := ⟨_, rfl⟩
      have hMl : M.length = zs.length := by rw [← hM]; simp
      rw [hM] at O4 HSW
      have hML := Lib.hid hMl
      have hz1 := f1.size
      have hz2 := F2.size
      go_wp2
      go_region
      have O5 : Hid (US (((w2.setCell ⟨g, I, none⟩ (.int .u16 xJ)).setCell ⟨g, J, none⟩ (.int .u16 xI)).drew.drew) (some ⟨g, 0, none⟩) c2 M) := Lib.hid (O4.out.drew.drew.bs.1)
      have F5 : Fine w (((w2.setCell ⟨g, I, none⟩ (.int .u16 xJ)).setCell ⟨g, J, none⟩ (.int .u16 xI)).drew.drew) := ((((f1.trans F2).setCell (by show w.heap.size ≤ g; omega) _).setCell (by show w.heap.size ≤ g; omega) _).drew).drew
      have hsz : (((w2.setCell ⟨g, I, none⟩ (.int .u16 xJ)).setCell ⟨g, J, none⟩ (.int .u16 xI)).drew.drew).heap.size = w2.heap.size := by simp
      clear hM hMl O2 O3 O4 K2 k2 F2 hcI hcJ hcJ2 hfI hfJ hfJ2
      generalize (((w2.setCell ⟨g, I, none⟩ (.int .u16 xJ)).setCell ⟨g, J, none⟩ (.int .u16 xI)).drew.drew) = w5 at O5 F5 hsz ⊢
      go_wp2
      go_loopw [52, 10, 11] (fun i x y wr => ∃ k : Nat, k ≤ zs.length ∧ i = .int .i64 k ∧ OwnB wr w2.heap.size x (wb (zs.take k)) ∧ OwnB wr w2.heap.size y (wb (M.take k)) ∧ (∀ q, x.ownBlock = some q → y.ownBlock ≠ some q) ∧ Hid (US wr (some ⟨g, 0, none⟩) c2 M) ∧ Fine w wr ∧ w2.heap.size ≤ wr.heap.size) (fun i _ _ _ => zs.length - (intOf i).toNat)
      case atStart => exact ⟨0, Nat.zero_le _, rfl, OwnB.nil_ _ _, OwnB.nil_ _ _, (fun q h => by cases h), O5, F5, by omega⟩
      case round =>
        obtain ⟨k, hk, rfl, ox, oy, hd, hM, hf, hsz5⟩ := hrel
        by_cases hlt : k < zs.length
        · obtain ⟨b, off, rfl, hb, hck⟩ := (HB.out.fine hf).at_ hlt
          obtain ⟨b', off', e7, hb', hmk⟩ := hM.out.at_ (k := k) (by rw [hML.out]; exact hlt)
          injection e7 with e7
          injection e7 with e1 e2 _
          subst e1 e2
          have hvb := HB.out.1.getD k
          have hub := hM.out.1.getD k
          have T1 := Lib.hid (fun v hv => wb_take zs k hlt v hv)
          have T2 := Lib.hid (fun v hv => wb_take M k (by rw [hML.out]; exact hlt) v hv)
          obtain ⟨v, hv⟩ : ∃ v, zs.getD k 0 = v := ⟨_, rfl⟩
          obtain ⟨u, hu⟩ : ∃ u, M.getD k 0 = u := ⟨_, rfl⟩
          have T1 := Lib.hid (T1.out v hv)
          have T2 := Lib.hid (T2.out u hu)
          rw [hv] at hck hvb
          rw [hu] at hmk hub
          clear hv
          have HV : Hid (∀ w : World, BS (w.alloc (.cells #[.int .u8 (v / 256), .int .u8 (v % 256)] 5)) (some ⟨w.heap.size, 0, none⟩) 2 [v / 256, v % 256]) :=
            fun w => bs_lit w [v / 256, v % 256] (by intro x hx; simp at hx; omega) (by simp)
          have HU : Hid (∀ w : World, BS (w.alloc (.cells #[.int .u8 (u / 256), .int .u8 (u % 256)] 5)) (some ⟨w.heap.size, 0, none⟩) 2 [u / 256, u % 256]) :=
            fun w => bs_lit w [u / 256, u % 256] (by intro x hx; simp at hx; omega) (by simp)
          have hlx : (wb (zs.take k)).length ≤ 400 := by rw [wb_length, List.length_take]; omega
          have hly : (wb (M.take k)).length ≤ 400 := by rw [wb_length, List.length_take, hML.out]; omega
          obtain ⟨X, hX⟩ : ∃ X, wb (zs.take k) = X := ⟨_, rfl⟩
          obtain ⟨Y, hY⟩ : ∃ Y, wb (M.take k) = Y := ⟨_, rfl⟩
          rw [hX] at T1 ox hlx
          rw [hY] at T2 oy hly
          clear hX hY
          have ev1 : IntKind.u8.wrap (v / 256) = v / 256 := by rw [IntKind.wrap_u8]; omega
          have ev2 : IntKind.u8.wrap v = v % 256 := by rw [IntKind.wrap_u8]
          have eu1 : IntKind.u8.wrap (u / 256) = u / 256 := by rw [IntKind.wrap_u8]; omega
          have eu2 : IntKind.u8.wrap u = u % 256 := by rw [IntKind.wrap_u8]
          go_wp2
          go_region_law (refine step_appB rfl (.tmp 55) (.tmp 67) rfl w2.heap.size _ _ rfl (ox.alloc _).drew (some ⟨wr.heap.size, 0, none⟩) _ _ [v / 256, v % 256] rfl rfl ((HV.out wr).fine (Fine.refl _).drew) (by first | omega | (simp; done) | (simp; omega)) (by first | omega | (simp; done) | (simp; omega)) ?_; intro x3 w3 ox3 k3 g3 b3)
          all_goals
            have kk3 : Kept (fun q => w2.heap.size ≤ q) wr w3 := Kept.trans (((Kept.refl _ _).alloc _).drew) k3
            have hM3 : Hid (US w3 (some ⟨g, 0, none⟩) c2 M) := Lib.hid (show US w3 _ _ _ from ⟨hM.out.1, hM.out.2.kept kk3 (fun b off e => by injection e with e; injection e with e1 _; show ¬ (w2.heap.size ≤ b); omega)⟩)
            have oy3 : OwnB w3 w2.heap.size u11 Y := (oy.alloc _).drew.grown g3 (by
              cases h : u11.ownBlock with
              | none => exact .inl rfl
              | some q => exact .inr (fun e => hd q e.symm h))
            have hd3 : ∀ q, x3.ownBlock = some q → u11.ownBlock ≠ some q := by
              intro q h1 h2
              rcases b3 with e | e
              · exact hd q (e ▸ h1) h2
              · have := (oy.lt q h2).2
                rw [e] at h1
                simp at h1
                omega
            have hf3 : Fine w w3 := Fine.kept hf kk3 (fun q hq => by omega)
            have hs3 := kk3.size
            obtain ⟨b'', off'', e8, hb'', hmk3⟩ := hM3.out.at_ (k := k) (by rw [hML.out]; exact hlt)
            injection e8 with e8
            injection e8 with e1 e2 _
            subst e1 e2
            rw [hu, Nat.zero_add] at hmk3
            clear hu hmk hck hb oy ox hM hd k3 g3 b3
            go_wp2
            go_region_law (refine step_appB rfl (.tmp 69) (.tmp 81) rfl w2.heap.size _ _ rfl (oy3.alloc _).drew (some ⟨w3.heap.size, 0, none⟩) _ _ [u / 256, u % 256] rfl rfl ((HU.out w3).fine (Fine.refl _).drew) (by first | omega | (simp; done) | (simp; omega)) (by first | omega | (simp; done) | (simp; omega)) ?_; intro y4 w4 oy4 k4 g4 b4)
            all_goals
              have kk4 : Kept (fun q => w2.heap.size ≤ q) w3 w4 := Kept.trans (((Kept.refl _ _).alloc _).drew) k4
              have hM4 : Hid (US w4 (some ⟨g, 0, none⟩) c2 M) := Lib.hid (show US w4 _ _ _ from ⟨hM3.out.1, hM3.out.2.kept kk4 (fun b off e => by injection e with e; injection e with e1 _; show ¬ (w2.heap.size ≤ b); omega)⟩)
              have ox4 : OwnB w4 w2.heap.size x3 (X ++ [v / 256, v % 256]) := (ox3.alloc _).drew.grown g4 (by
                cases h : x3.ownBlock with
                | none => exact .inl rfl
                | some q => exact .inr (fun e => hd3 q h e.symm))
              have hd4 : ∀ q, x3.ownBlock = some q → y4.ownBlock ≠ some q := by
                intro q h1 h2
                rcases b4 with e | e
                · exact hd3 q h1 (e ▸ h2)
                · have := (ox3.lt q h1).2
                  rw [e] at h2
                  simp at h2
                  omega
              have hf4 : Fine w w4 := Fine.kept hf3 kk4 (fun q hq => by omega)
              have hs4 := kk4.size
              rw [← T1.out] at ox4
              rw [← T2.out] at oy4
              clear k4 g4 b4 hM3 hmk3
              go_wp2
              go_roundw
              case rel => exact ⟨k + 1, by omega, by go_num, ox4, oy4, hd4, hM4, hf4, by omega⟩
              case measure => simp [intOf]; omega
        · have e : k = zs.length := by omega
          subst e
          rw [List.take_length] at ox
          rw [← hML.out, List.take_length] at oy
          have hlx : (wb zs).length ≤ 400 := by rw [wb_length]; omega
          have hly : (wb M).length ≤ 400 := by rw [wb_length, hML.out]; omega
          obtain ⟨X, hX⟩ : ∃ X, wb zs = X := ⟨_, rfl⟩
          obtain ⟨Y, hY⟩ : ∃ Y, wb M = Y := ⟨_, rfl⟩
          rw [hX] at ox hlx HSW
          rw [hY] at oy hly HSW
          clear hX hY
          obtain ⟨A1, c1, rfl, b1, _⟩ := ox.form
          obtain ⟨A3, c3, rfl, b3, _⟩ := oy.form
          have K1 := Lib.hid b1
          have K3 := Lib.hid b3
          clear ox oy b1 b3 hd hM
          go_wp2_with fail
          refine (of_one wr.heap.size _ c1 A1 X _ (by repeat (first | assumption | (with_reducible refine Blk.newAt ?_; first | rfl | (simp; done)) | (with_reducible refine Blk.drew ?_) | (with_reducible refine Blk.alloc ?_ _) | (refine Blk.fine ?_ (by assumption)))) rfl (K1.out.fine ((Fine.refl _).alloc _)) (by omega)).mono ?_; rintro e w6 ⟨rfl, f6⟩
          have F6 : Fine wr w6 := (by repeat (first | exact Fine.refl _ | assumption | refine Fine.alloc ?_ _ | refine Fine.drew ?_ | refine Fine.drewN ?_ _ | refine Fine.trans ?_ (by assumption) | (refine Fine.kept ?_ (by assumption) (by intro x hx; first | omega | (simp; omega))) | (refine Fine.setCell ?_ (by first | assumption | (simp; omega)) _)))
          go_wp2_with fail
          refine (of_one w6.heap.size _ c3 A3 Y _ (by repeat (first | assumption | (with_reducible refine Blk.newAt ?_; first | rfl | (simp; done)) | (with_reducible refine Blk.drew ?_) | (with_reducible refine Blk.alloc ?_ _) | (refine Blk.fine ?_ (by assumption)))) rfl ((K3.out.fine F6).fine ((Fine.refl _).alloc _)) (by omega)).mono ?_; rintro e w7 ⟨rfl, f7⟩
          rw [HSW.out]
          have F7 : Fine w6 w7 := Fine.trans ((Fine.refl _).alloc _) f7
          go_wp2
          go_ret
          exact ⟨rfl, (hf.trans F6).trans F7⟩
end Go.Proofs.Ythnennleblgjeaa
