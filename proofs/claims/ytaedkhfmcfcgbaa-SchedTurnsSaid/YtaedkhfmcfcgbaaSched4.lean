/- Contracts: Pick, the program's and the document's. -/
import Derived.Test.YtaedkhfmcfcgbaaSched3
import Derived.Laws.EntriesVeiled
namespace Go.Proofs.Ytaedkhfmcfcgbaa
open Go.ChangeShapes Go.WideShapes Go.ChangeAt Go.RowKit
set_option linter.unusedVariables false

def PickOf (xs : List Int) (w : World) (e : Ending) (w' : World) : Prop := ∃ A c, e = .returned (.slice A xs.length c) ∧ RS LI w' A c xs ∧ Fine w w'
theorem RS.litI {w : World} {g : Nat} (x : Int) (hg : g = w.heap.size) : RS LI (w.alloc (.cells #[.int .i64 x] 3)) (some ⟨g, 0, none⟩) 1 [x] := RS.ofBlk (Blk.newAt hg) rfl rfl (by unfold maxLen; omega)

theorem quick_any (u : Int) (A B : Option Addr) (c d : Nat) (ps : List Pth) (hm : ps.length ≤ 50) (xs : List Int) (h0 : 0 < xs.length) (hin : InB ps.length xs) (w : World) (h : RS layP w A c ps) (hx : RS LI w B d xs) :
    Calls Try.prog 16 #[.int .i64 u, .slice B xs.length d, .slice A ps.length c] w (PickOf [least (smAt ps) xs xs.length] w) := by
  have hmf : ∀ (fn : Fn) (first cap : Array Value) (w : World), (Instr.makeFunc fn first cap).run Try.prog w = .ok (.func fn first cap) w := fun _ _ _ _ => rfl
  obtain ⟨y, hy0⟩ : ∃ y, least (smAt ps) xs xs.length = y := ⟨_, rfl⟩
  rw [hy0]
  have HY := Lib.hid hy0; clear hy0
  go_enter Try.func16, Try.ntmps16
  go_wp2_with fail
  refine (least_any w.heap.size A B c d ps hm xs h0 hin _ (Blk.newAt rfl) (h.fine (by repeat (first | exact Fine.refl _ | assumption | refine Fine.alloc ?_ _ | refine Fine.drew ?_ | refine Fine.drewN ?_ _ | refine Fine.trans ?_ (by assumption) | (refine Fine.kept ?_ (by assumption) (by intro x hx; first | omega | (simp; omega))) | (refine Fine.setCell ?_ (by first | assumption | (simp; omega)) _)))) (hx.fine (by repeat (first | exact Fine.refl _ | assumption | refine Fine.alloc ?_ _ | refine Fine.drew ?_ | refine Fine.drewN ?_ _ | refine Fine.trans ?_ (by assumption) | (refine Fine.kept ?_ (by assumption) (by intro x hx; first | omega | (simp; omega))) | (refine Fine.setCell ?_ (by first | assumption | (simp; omega)) _))))).mono ?_; rintro e w1 ⟨rfl, f1⟩
  rw [HY.out]
  go_wp2_with fail
  go_ret
  exact ⟨some ⟨w1.heap.size, 0, none⟩, 1, rfl, RS.litI y rfl, (by repeat (first | exact Fine.refl _ | assumption | refine Fine.alloc ?_ _ | refine Fine.drew ?_ | refine Fine.drewN ?_ _ | refine Fine.trans ?_ (by assumption) | (refine Fine.kept ?_ (by assumption) (by intro x hx; first | omega | (simp; omega))) | (refine Fine.setCell ?_ (by first | assumption | (simp; omega)) _)))⟩

theorem run_front3 (A : Option Addr) (len c : Nat) (h1 : 1 ≤ len) (hc : len ≤ c) (w : World) :
    (Instr.sliceAt 25 (.slice A len c) none (some (.int .i64 1)) (some (.int .i64 1))).run Try.prog w = .ok (.slice A 1 1) w := by
  obtain ⟨i, hi, hz⟩ := Option.map_eq_some_iff.1 sliceI.size
  simp only [Instr.sliceAt, Instr.slice, Sem.run_bind, run_underlying sliceI.ht, Result.andThen_ok, Instr.sliceBounds, Sem.run_pure]
  rw [run_sliceBound (w := w) .i64 1 c _ (by omega) (by omega)]
  simp only [Result.andThen_ok]
  rw [run_sliceBound (w := w) .i64 1 _ _ (by omega) (by decide)]
  simp [sizeOf, typeInfo, hi, hz, Result.andThen]
  cases A with
  | none => rfl
  | some ad => simp [Addr.add]

theorem turn_any (last : Int) (A' B : Option Addr) (n' c' d : Nat) (xs : List Int) (h0 : 0 < xs.length) (hl : xs.length ≤ 50) (w : World) (hx : RS LI w B d xs) :
    Calls Try.prog 17 #[.int .i64 last, .slice B xs.length d, .slice A' n' c'] w (PickOf [turnOf last xs] w) := by
  have hrun : ∀ w, (Instr.sliceAt 25 (.slice B xs.length d) none (some (.int .i64 1)) (some (.int .i64 1))).run Try.prog w = .ok (.slice B 1 1) w := fun w => run_front3 B xs.length d h0 hx.le w
  go_enter Try.func17, Try.ntmps17
  go_wp2_with fail
  go_loopw [11] (fun i wr => ∃ k : Nat, k ≤ xs.length ∧ i = .int .i64 k ∧ (∀ j, j < k → xs.getD j 0 ≤ last) ∧ Fine w wr) (fun i _ => xs.length - (intOf i).toNat)
  case atStart => exact ⟨0, Nat.zero_le _, rfl, fun j hj => absurd hj (by omega), (by repeat (first | exact Fine.refl _ | assumption | refine Fine.alloc ?_ _ | refine Fine.drew ?_ | refine Fine.drewN ?_ _ | refine Fine.trans ?_ (by assumption) | (refine Fine.kept ?_ (by assumption) (by intro x hx; first | omega | (simp; omega))) | (refine Fine.setCell ?_ (by first | assumption | (simp; omega)) _)))⟩
  case round =>
    obtain ⟨k, hk, rfl, hno0, hf⟩ := hrel
    have hno := Lib.hid hno0; clear hno0
    by_cases hlt : k < xs.length
    · obtain ⟨b, off, rfl, hb, c0⟩ := (hx.fine hf).atI hlt
      obtain ⟨x, hx0⟩ : ∃ x, xs.getD k 0 = x := ⟨_, rfl⟩
      rw [hx0] at c0
      have HX := Lib.hid hx0; clear hx0
      by_cases hc : last < x
      · go_wp2_with fail
        go_ret
        have e : turnOf last xs = x := (turn_hit hlt (by rw [HX.out]; exact hc) hno.out).trans HX.out
        rw [e]
        exact ⟨some ⟨wr.heap.size, 0, none⟩, 1, rfl, RS.litI x rfl, (by repeat (first | exact Fine.refl _ | assumption | refine Fine.alloc ?_ _ | refine Fine.drew ?_ | refine Fine.drewN ?_ _ | refine Fine.trans ?_ (by assumption) | (refine Fine.kept ?_ (by assumption) (by intro x hx; first | omega | (simp; omega))) | (refine Fine.setCell ?_ (by first | assumption | (simp; omega)) _)))⟩
      · go_wp2_with fail
        go_roundw
        case rel => exact ⟨k + 1, by omega, by go_num, (fun j hj => by
          by_cases e : j = k
          · subst e; rw [HX.out]; omega
          · exact hno.out j (by omega)), (by repeat (first | exact Fine.refl _ | assumption | refine Fine.alloc ?_ _ | refine Fine.drew ?_ | refine Fine.drewN ?_ _ | refine Fine.trans ?_ (by assumption) | (refine Fine.kept ?_ (by assumption) (by intro x hx; first | omega | (simp; omega))) | (refine Fine.setCell ?_ (by first | assumption | (simp; omega)) _)))⟩
        case measure => simp [intOf]; omega
    · have he := Lib.hid (show k = xs.length by omega)
      go_wp2_with fail
      go_ret
      have e : turnOf last xs = xs.getD 0 0 := turn_miss (fun j hj => hno.out j (by have := he.out; omega))
      rw [e]
      refine ⟨B, 1, rfl, ?_, (by repeat (first | exact Fine.refl _ | assumption | refine Fine.alloc ?_ _ | refine Fine.drew ?_ | refine Fine.drewN ?_ _ | refine Fine.trans ?_ (by assumption) | (refine Fine.kept ?_ (by assumption) (by intro x hx; first | omega | (simp; omega))) | (refine Fine.setCell ?_ (by first | assumption | (simp; omega)) _)))⟩
      have h1 := (hx.fine hf).front 1 (by omega)
      have e2 : xs.take 1 = [xs.getD 0 0] := by
        cases xs with
        | nil => simp at h0
        | cons x xs => simp [List.getD]
      rw [e2] at h1
      exact ⟨Nat.le_refl _, by unfold maxLen; omega, fun e => by have h4 := h1.2.2.1 e; have h5 := hx.le; omega, h1.2.2.2⟩
theorem whole_any (u : Int) (A' B : Option Addr) (n' c' d : Nat) (xs : List Int) (w : World) (hx : RS LI w B d xs) :
    Calls Try.prog 18 #[.int .i64 u, .slice B xs.length d, .slice A' n' c'] w (PickOf xs w) := by
  go_enter Try.func18, Try.ntmps18
  go_wp2_with fail
  go_ret
  exact ⟨B, d, rfl, hx, (by repeat (first | exact Fine.refl _ | assumption | refine Fine.alloc ?_ _ | refine Fine.drew ?_ | refine Fine.drewN ?_ _ | refine Fine.trans ?_ (by assumption) | (refine Fine.kept ?_ (by assumption) (by intro x hx; first | omega | (simp; omega))) | (refine Fine.setCell ?_ (by first | assumption | (simp; omega)) _)))⟩

theorem pick_any (how last : Int) (A : Option Addr) (c : Nat) (ps : List Pth) (hm : ps.length ≤ 50) (w : World) (h : RS layP w A c ps) :
    Calls Try.prog 11 #[.int .i64 how, .int .i64 last, .slice A ps.length c] w (PickOf (picked ps how last) w) := by
  have hal := ables_le ps ps.length
  have hin := ables_in ps ps.length (Nat.le_refl _)
  by_cases hn : ables ps ps.length = [] ∨ how < 0 ∨ 2 < how
  · rw [picked_none hn]
    have hn' : how < 0 ∨ 2 < how ∨ (0 ≤ how ∧ how ≤ 2 ∧ (ables ps ps.length).length = 0) := by
      rcases hn with hn | hn | hn
      · by_cases a : how < 0
        · exact .inl a
        · by_cases b : 2 < how
          · exact .inr (.inl b)
          · exact .inr (.inr ⟨by omega, by omega, by rw [hn]; rfl⟩)
      · exact .inl hn
      · exact .inr (.inl hn)
    clear hn
    rcases hn' with hn | hn | ⟨h1, h2, hn⟩
    · go_enter Try.func11, Try.ntmps11
      go_wp2_with fail
      refine (able_any A c ps hm _ (h.fine (by repeat (first | exact Fine.refl _ | assumption | refine Fine.alloc ?_ _ | refine Fine.drew ?_ | refine Fine.drewN ?_ _ | refine Fine.trans ?_ (by assumption) | (refine Fine.kept ?_ (by assumption) (by intro x hx; first | omega | (simp; omega))) | (refine Fine.setCell ?_ (by first | assumption | (simp; omega)) _))))).mono ?_; rintro e w1 ⟨A1, c1, rfl, hown, f1⟩
      go_wp2_with fail
      go_ret
      exact ⟨none, 0, rfl, RS.nil_ _ _, (by repeat (first | exact Fine.refl _ | assumption | refine Fine.alloc ?_ _ | refine Fine.drew ?_ | refine Fine.drewN ?_ _ | refine Fine.trans ?_ (by assumption) | (refine Fine.kept ?_ (by assumption) (by intro x hx; first | omega | (simp; omega))) | (refine Fine.setCell ?_ (by first | assumption | (simp; omega)) _)))⟩
    · go_enter Try.func11, Try.ntmps11
      go_wp2_with fail
      refine (able_any A c ps hm _ (h.fine (by repeat (first | exact Fine.refl _ | assumption | refine Fine.alloc ?_ _ | refine Fine.drew ?_ | refine Fine.drewN ?_ _ | refine Fine.trans ?_ (by assumption) | (refine Fine.kept ?_ (by assumption) (by intro x hx; first | omega | (simp; omega))) | (refine Fine.setCell ?_ (by first | assumption | (simp; omega)) _))))).mono ?_; rintro e w1 ⟨A1, c1, rfl, hown, f1⟩
      go_wp2_with fail
      go_ret
      exact ⟨none, 0, rfl, RS.nil_ _ _, (by repeat (first | exact Fine.refl _ | assumption | refine Fine.alloc ?_ _ | refine Fine.drew ?_ | refine Fine.drewN ?_ _ | refine Fine.trans ?_ (by assumption) | (refine Fine.kept ?_ (by assumption) (by intro x hx; first | omega | (simp; omega))) | (refine Fine.setCell ?_ (by first | assumption | (simp; omega)) _)))⟩
    · have hb : (((ables ps ps.length).length : Int) == 0) = true := by rw [hn]; rfl
      have hn := Lib.hid hn
      go_enter Try.func11, Try.ntmps11
      go_wp2_with fail
      refine (able_any A c ps hm _ (h.fine (by repeat (first | exact Fine.refl _ | assumption | refine Fine.alloc ?_ _ | refine Fine.drew ?_ | refine Fine.drewN ?_ _ | refine Fine.trans ?_ (by assumption) | (refine Fine.kept ?_ (by assumption) (by intro x hx; first | omega | (simp; omega))) | (refine Fine.setCell ?_ (by first | assumption | (simp; omega)) _))))).mono ?_; rintro e w1 ⟨A1, c1, rfl, hown, f1⟩
      go_wp2_with fail
      go_ret
      exact ⟨none, 0, rfl, RS.nil_ _ _, (by repeat (first | exact Fine.refl _ | assumption | refine Fine.alloc ?_ _ | refine Fine.drew ?_ | refine Fine.drewN ?_ _ | refine Fine.trans ?_ (by assumption) | (refine Fine.kept ?_ (by assumption) (by intro x hx; first | omega | (simp; omega))) | (refine Fine.setCell ?_ (by first | assumption | (simp; omega)) _)))⟩
  · have h3 : ables ps ps.length ≠ [] ∧ 0 ≤ how ∧ how ≤ 2 := ⟨fun e => hn (.inl e), by omega, by omega⟩
    clear hn
    obtain ⟨hne, ha, hb⟩ := h3
    have h0 : 0 < (ables ps ps.length).length := List.length_pos_iff.2 hne
    have hlb : (((ables ps ps.length).length : Int) == 0) = false := by rw [beq_eq_false_iff_ne]; omega
    have hcs : how = 0 ∨ how = 1 ∨ how = 2 := by omega
    have hp0 := Lib.hid (picked_quick (last := last) hne)
    have hp1 := Lib.hid (picked_turn (last := last) hne)
    have hp2 := Lib.hid (picked_all (ps := ps) (last := last))
    clear hne
    generalize hxs : ables ps ps.length = xs at hal hin h0 hlb hp0 hp1 hp2
    have HXS := Lib.hid hxs; clear hxs
    rcases hcs with rfl | rfl | rfl
    · rw [hp0.out]
      go_enter Try.func11, Try.ntmps11
      go_wp2_with fail
      refine (able_any A c ps hm _ (h.fine (by repeat (first | exact Fine.refl _ | assumption | refine Fine.alloc ?_ _ | refine Fine.drew ?_ | refine Fine.drewN ?_ _ | refine Fine.trans ?_ (by assumption) | (refine Fine.kept ?_ (by assumption) (by intro x hx; first | omega | (simp; omega))) | (refine Fine.setCell ?_ (by first | assumption | (simp; omega)) _))))).mono ?_; rintro e w1 ⟨A1, c1, rfl, hown, f1⟩
      rw [HXS.out] at hown ⊢
      have hblk := Blk.fine (Blk.new w 39 #[.func (.func 16) #[] #[], .func (.func 17) #[] #[], .func (.func 18) #[] #[]]) f1
      have k0 : w1.cell? ⟨w.heap.size, 0, none⟩ = some (.func (.func 16) #[] #[]) := hblk.cell 0
      have HB := Lib.hid hblk; clear hblk
      have ho := Lib.hid hown; clear hown
      go_wp2_with fail
      refine (quick_any _ A A1 c c1 ps hm xs h0 hin _ (h.fine (by repeat (first | exact Fine.refl _ | assumption | refine Fine.alloc ?_ _ | refine Fine.drew ?_ | refine Fine.drewN ?_ _ | refine Fine.trans ?_ (by assumption) | (refine Fine.kept ?_ (by assumption) (by intro x hx; first | omega | (simp; omega))) | (refine Fine.setCell ?_ (by first | assumption | (simp; omega)) _)))) ho.out.rs.1).mono ?_; rintro e w2 ⟨A2, c2, rfl, h2, f2⟩
      have H2 := Lib.hid h2; clear h2
      go_wp2_with fail
      go_ret
      exact ⟨A2, c2, rfl, H2.out, (by repeat (first | exact Fine.refl _ | assumption | refine Fine.alloc ?_ _ | refine Fine.drew ?_ | refine Fine.drewN ?_ _ | refine Fine.trans ?_ (by assumption) | (refine Fine.kept ?_ (by assumption) (by intro x hx; first | omega | (simp; omega))) | (refine Fine.setCell ?_ (by first | assumption | (simp; omega)) _)))⟩
    · rw [hp1.out]
      go_enter Try.func11, Try.ntmps11
      go_wp2_with fail
      refine (able_any A c ps hm _ (h.fine (by repeat (first | exact Fine.refl _ | assumption | refine Fine.alloc ?_ _ | refine Fine.drew ?_ | refine Fine.drewN ?_ _ | refine Fine.trans ?_ (by assumption) | (refine Fine.kept ?_ (by assumption) (by intro x hx; first | omega | (simp; omega))) | (refine Fine.setCell ?_ (by first | assumption | (simp; omega)) _))))).mono ?_; rintro e w1 ⟨A1, c1, rfl, hown, f1⟩
      rw [HXS.out] at hown ⊢
      have hblk := Blk.fine (Blk.new w 39 #[.func (.func 16) #[] #[], .func (.func 17) #[] #[], .func (.func 18) #[] #[]]) f1
      have k0 : w1.cell? ⟨w.heap.size, 1, none⟩ = some (.func (.func 17) #[] #[]) := hblk.cell 1
      have HB := Lib.hid hblk; clear hblk
      have ho := Lib.hid hown; clear hown
      go_wp2_with fail
      refine (turn_any _ _ A1 _ _ c1 xs h0 (by omega) _ ho.out.rs.1).mono ?_; rintro e w2 ⟨A2, c2, rfl, h2, f2⟩
      have H2 := Lib.hid h2; clear h2
      go_wp2_with fail
      go_ret
      exact ⟨A2, c2, rfl, H2.out, (by repeat (first | exact Fine.refl _ | assumption | refine Fine.alloc ?_ _ | refine Fine.drew ?_ | refine Fine.drewN ?_ _ | refine Fine.trans ?_ (by assumption) | (refine Fine.kept ?_ (by assumption) (by intro x hx; first | omega | (simp; omega))) | (refine Fine.setCell ?_ (by first | assumption | (simp; omega)) _)))⟩
    · rw [hp2.out]
      go_enter Try.func11, Try.ntmps11
      go_wp2_with fail
      refine (able_any A c ps hm _ (h.fine (by repeat (first | exact Fine.refl _ | assumption | refine Fine.alloc ?_ _ | refine Fine.drew ?_ | refine Fine.drewN ?_ _ | refine Fine.trans ?_ (by assumption) | (refine Fine.kept ?_ (by assumption) (by intro x hx; first | omega | (simp; omega))) | (refine Fine.setCell ?_ (by first | assumption | (simp; omega)) _))))).mono ?_; rintro e w1 ⟨A1, c1, rfl, hown, f1⟩
      rw [HXS.out] at hown ⊢
      have hblk := Blk.fine (Blk.new w 39 #[.func (.func 16) #[] #[], .func (.func 17) #[] #[], .func (.func 18) #[] #[]]) f1
      have k0 : w1.cell? ⟨w.heap.size, 2, none⟩ = some (.func (.func 18) #[] #[]) := hblk.cell 2
      have HB := Lib.hid hblk; clear hblk
      have ho := Lib.hid hown; clear hown
      go_wp2_with fail
      refine (whole_any _ _ A1 _ _ c1 xs _ ho.out.rs.1).mono ?_; rintro e w2 ⟨A2, c2, rfl, h2, f2⟩
      have H2 := Lib.hid h2; clear h2
      go_wp2_with fail
      go_ret
      exact ⟨A2, c2, rfl, H2.out, (by repeat (first | exact Fine.refl _ | assumption | refine Fine.alloc ?_ _ | refine Fine.drew ?_ | refine Fine.drewN ?_ _ | refine Fine.trans ?_ (by assumption) | (refine Fine.kept ?_ (by assumption) (by intro x hx; first | omega | (simp; omega))) | (refine Fine.setCell ?_ (by first | assumption | (simp; omega)) _)))⟩
end Go.Proofs.Ytaedkhfmcfcgbaa
