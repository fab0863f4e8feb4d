/- The laws of option: a place's number, and how it is set. -/
import Derived.Test.YthnennleblgjeaaDoorXOpt2
namespace Go.Proofs.YthnennleblgjeaaDoor
set_option linter.unusedVariables false
set_option linter.unusedSimpArgs false
open Go.ChangeShapes Go.WideShapes Go.ChangeAt Go.RowKit
set_option linter.unusedVariables false

theorem number_big (b j : Nat) (x wd : Int) (w : World) (hc : w.cell? ⟨b, j, none⟩ = some (.int .u64 x)) :
    Calls Tryd.prog 56 #[.agg #[.pointer (some ⟨b, j, none⟩), .pointer none, .pointer none, .pointer none, .int .i64 wd]] w fun r w' => r = .returned (.tuple #[.int .u64 x, .bool true]) ∧ Fine w w' := by
  have hc2 : ∀ o, (w.alloc o).cell? ⟨b, j, none⟩ = some (.int .u64 x) := fun o => (World.cell?_alloc_some w _ o (by rw [hc]; rfl)).trans hc
  go_enter Tryd.func56, Tryd.ntmps56
  go_wp2_with fail
  go_ret2
  exact ⟨rfl, (by repeat (first | exact Fine.refl _ | assumption | refine Fine.alloc ?_ _ | refine Fine.drew ?_ | refine Fine.drewN ?_ _ | refine Fine.trans ?_ (by assumption) | (refine Fine.kept ?_ (by assumption) (by intro x hx; first | omega | (simp; omega))) | (refine Fine.setCell ?_ (by first | assumption | (simp; done) | (simp; omega)) _)))⟩
theorem number_word (b j : Nat) (x wd : Int) (hx : 0 ≤ x ∧ x < 4294967296) (w : World) (hc : w.cell? ⟨b, j, none⟩ = some (.int .u32 x)) :
    Calls Tryd.prog 56 #[.agg #[.pointer none, .pointer (some ⟨b, j, none⟩), .pointer none, .pointer none, .int .i64 wd]] w fun r w' => r = .returned (.tuple #[.int .u64 x, .bool true]) ∧ Fine w w' := by
  have hc2 : ∀ o, (w.alloc o).cell? ⟨b, j, none⟩ = some (.int .u32 x) := fun o => (World.cell?_alloc_some w _ o (by rw [hc]; rfl)).trans hc
  have e : x % 18446744073709551616 = x := Int.emod_eq_of_lt hx.1 (by omega)
  go_enter Tryd.func56, Tryd.ntmps56
  go_wp2_with fail
  go_ret2
  exact ⟨rfl, (by repeat (first | exact Fine.refl _ | assumption | refine Fine.alloc ?_ _ | refine Fine.drew ?_ | refine Fine.drewN ?_ _ | refine Fine.trans ?_ (by assumption) | (refine Fine.kept ?_ (by assumption) (by intro x hx; first | omega | (simp; omega))) | (refine Fine.setCell ?_ (by first | assumption | (simp; done) | (simp; omega)) _)))⟩
theorem number_is (b j : Nat) (t : Bool) (wd : Int) (w : World) (hc : w.cell? ⟨b, j, none⟩ = some (.bool t)) :
    Calls Tryd.prog 56 #[.agg #[.pointer none, .pointer none, .pointer none, .pointer (some ⟨b, j, none⟩), .int .i64 wd]] w fun r w' => r = .returned (.tuple #[.int .u64 (if t then 1 else 0), .bool true]) ∧ Fine w w' := by
  have hc2 : ∀ o, (w.alloc o).cell? ⟨b, j, none⟩ = some (.bool t) := fun o => (World.cell?_alloc_some w _ o (by rw [hc]; rfl)).trans hc
  go_enter Tryd.func56, Tryd.ntmps56
  cases t
  · go_wp2_with fail
    go_ret2
    exact ⟨rfl, (by repeat (first | exact Fine.refl _ | assumption | refine Fine.alloc ?_ _ | refine Fine.drew ?_ | refine Fine.drewN ?_ _ | refine Fine.trans ?_ (by assumption) | (refine Fine.kept ?_ (by assumption) (by intro x hx; first | omega | (simp; omega))) | (refine Fine.setCell ?_ (by first | assumption | (simp; done) | (simp; omega)) _)))⟩
  · go_wp2_with fail
    go_ret2
    exact ⟨rfl, (by repeat (first | exact Fine.refl _ | assumption | refine Fine.alloc ?_ _ | refine Fine.drew ?_ | refine Fine.drewN ?_ _ | refine Fine.trans ?_ (by assumption) | (refine Fine.kept ?_ (by assumption) (by intro x hx; first | omega | (simp; omega))) | (refine Fine.setCell ?_ (by first | assumption | (simp; done) | (simp; omega)) _)))⟩
theorem number_num (b j : Nat) (x : Int) (wd : Nat) (hwd : wd = 1 ∨ wd = 4) (w : World) (hc : w.cell? ⟨b, j, none⟩ = some (.int .i64 x)) :
    Calls Tryd.prog 56 #[.agg #[.pointer none, .pointer none, .pointer (some ⟨b, j, none⟩), .pointer none, .int .i64 wd]] w fun r w' => ∃ y, r = .returned (.tuple #[.int .u64 y, .bool (decide (0 ≤ x ∧ x < 256 ^ wd))]) ∧ (0 ≤ x → x < 256 ^ wd → y = x) ∧ Fine w w' := by
  have hc2 : ∀ o, (w.alloc o).cell? ⟨b, j, none⟩ = some (.int .i64 x) := fun o => (World.cell?_alloc_some w _ o (by rw [hc]; rfl)).trans hc
  rcases hwd with rfl | rfl
  · by_cases h0 : 0 ≤ x
    · rw [show decide (0 ≤ x ∧ x < 256 ^ 1) = decide (x < 256) from by simp [h0]]
      go_enter Tryd.func56, Tryd.ntmps56
      go_upto_region 9 with (fail)
      go_quiet (fail)
      go_wp2_with fail
      go_ret2
      exact ⟨_, rfl, fun _ h1 => by rw [IntKind.wrap_u64]; omega, (by repeat (first | exact Fine.refl _ | assumption | refine Fine.alloc ?_ _ | refine Fine.drew ?_ | refine Fine.drewN ?_ _ | refine Fine.trans ?_ (by assumption) | (refine Fine.kept ?_ (by assumption) (by intro x hx; first | omega | (simp; omega))) | (refine Fine.setCell ?_ (by first | assumption | (simp; done) | (simp; omega)) _)))⟩
    · rw [show decide (0 ≤ x ∧ x < 256 ^ 1) = false from by simp [h0]]
      go_enter Tryd.func56, Tryd.ntmps56
      go_upto_region 9 with (fail)
      go_quiet (fail)
      go_wp2_with fail
      go_ret2
      exact ⟨_, rfl, fun h _ => by omega, (by repeat (first | exact Fine.refl _ | assumption | refine Fine.alloc ?_ _ | refine Fine.drew ?_ | refine Fine.drewN ?_ _ | refine Fine.trans ?_ (by assumption) | (refine Fine.kept ?_ (by assumption) (by intro x hx; first | omega | (simp; omega))) | (refine Fine.setCell ?_ (by first | assumption | (simp; done) | (simp; omega)) _)))⟩
  · by_cases h0 : 0 ≤ x
    · rw [show decide (0 ≤ x ∧ x < 256 ^ 4) = decide (x < 4294967296) from by simp [h0]]
      go_enter Tryd.func56, Tryd.ntmps56
      go_upto_region 9 with (fail)
      go_quiet (fail)
      go_wp2_with fail
      go_ret2
      exact ⟨_, rfl, fun _ h1 => by rw [IntKind.wrap_u64]; omega, (by repeat (first | exact Fine.refl _ | assumption | refine Fine.alloc ?_ _ | refine Fine.drew ?_ | refine Fine.drewN ?_ _ | refine Fine.trans ?_ (by assumption) | (refine Fine.kept ?_ (by assumption) (by intro x hx; first | omega | (simp; omega))) | (refine Fine.setCell ?_ (by first | assumption | (simp; done) | (simp; omega)) _)))⟩
    · rw [show decide (0 ≤ x ∧ x < 256 ^ 4) = false from by simp [h0]]
      go_enter Tryd.func56, Tryd.ntmps56
      go_upto_region 9 with (fail)
      go_quiet (fail)
      go_wp2_with fail
      go_ret2
      exact ⟨_, rfl, fun h _ => by omega, (by repeat (first | exact Fine.refl _ | assumption | refine Fine.alloc ?_ _ | refine Fine.drew ?_ | refine Fine.drewN ?_ _ | refine Fine.trans ?_ (by assumption) | (refine Fine.kept ?_ (by assumption) (by intro x hx; first | omega | (simp; omega))) | (refine Fine.setCell ?_ (by first | assumption | (simp; done) | (simp; omega)) _)))⟩
def setV (k : FK) (y : Int) : Int := match k with | .big => y | .word => y % 4294967296 | .n => wrap64 y | .is => if y = 1 then 1 else 0
def setOk (k : FK) (y : Int) : Bool := match k with | .is => decide (y ≤ 1) | _ => true
theorem optL_get {b : Nat} {w : World} {V : Nat → Int} (h : Blk w b 69 (optL V).toArray) {j : Nat} (hj : j < 14) : w.cell? ⟨b, j, none⟩ = some (cellV (fk j) (V j)) := by
  rw [h.cell j, List.getElem?_toArray]
  exact optL_at V j hj
theorem optL_put {b : Nat} {w : World} {V : Nat → Int} (h : Blk w b 69 (optL V).toArray) {j : Nat} (hj : j < 14) (x : Int) : Blk (w.setCell ⟨b, j, none⟩ (cellV (fk j) x)) b 69 (optL (upd V j x)).toArray :=
  (h.set_ j _).cast (optL_set V j hj x)
/-- A place of an option that lies is set. -/
def SetOf (b : Nat) (V : Nat → Int) (j : Nat) (y : Int) (w : World) (r : Ending) (w' : World) : Prop :=
  r = .returned (.bool (setOk (fk j) y)) ∧ Blk w' b 69 (optL (upd V j (setV (fk j) y))).toArray ∧ Kept (fun x => x = b) w w'
theorem set_any (b j wd : Nat) (V : Nat → Int) (y : Int) (hy : 0 ≤ y ∧ y < 18446744073709551616) (hj : j < 14) (w : World) (h : Blk w b 69 (optL V).toArray) :
    Calls Tryd.prog 63 #[.agg (placeL b (j, wd)).toArray, .int .u64 y] w (SetOf b V j y w) := by
  have hc := optL_get h hj
  have hz : w.frozen? ⟨b, j, none⟩ = false := h.frozen j
  have hp : ∀ x, Blk (w.setCell ⟨b, j, none⟩ (cellV (fk j) x)) b 69 (optL (upd V j x)).toArray := fun x => optL_put h hj x
  have HB := Lib.hid h; clear h
  unfold SetOf
  have hbl := HB.out.lt
  cases hk : fk j with
  | big =>
    rw [hk] at hc
    unfold cellV at hc
    simp only at hc
    have hc2 : ∀ o, (w.alloc o).cell? ⟨b, j, none⟩ = some (.int .u64 (V j)) := fun o => (World.cell?_alloc_some w _ o (by rw [hc]; rfl)).trans hc
    have hz2 : ∀ o, (w.alloc o).frozen? ⟨b, j, none⟩ = false := fun o => (HB.out.alloc o).frozen j
    rw [show (placeL b (j, wd)) = [.pointer (some ⟨b, j, none⟩), .pointer none, .pointer none, .pointer none, .int .i64 wd] from by unfold placeL; rw [hk]]
    go_enter Tryd.func63, Tryd.ntmps63
    go_wp2_with fail
    go_ret
    have hp' := hp y
    rw [hk] at hp'
    exact ⟨rfl, hp'.alloc _, (((Kept.refl (fun x => x = b) w).setIn rfl _).alloc _)⟩
  | word =>
    rw [hk] at hc
    unfold cellV at hc
    simp only at hc
    have hc2 : ∀ o, (w.alloc o).cell? ⟨b, j, none⟩ = some (.int .u32 (V j)) := fun o => (World.cell?_alloc_some w _ o (by rw [hc]; rfl)).trans hc
    have hz2 : ∀ o, (w.alloc o).frozen? ⟨b, j, none⟩ = false := fun o => (HB.out.alloc o).frozen j
    rw [show (placeL b (j, wd)) = [.pointer none, .pointer (some ⟨b, j, none⟩), .pointer none, .pointer none, .int .i64 wd] from by unfold placeL; rw [hk]]
    have hp' := hp (y % 4294967296)
    rw [hk] at hp'
    go_enter Tryd.func63, Tryd.ntmps63
    go_wp2_with fail
    go_ret
    exact ⟨rfl, hp'.alloc _, (((Kept.refl (fun x => x = b) w).setIn rfl _).alloc _)⟩
  | n =>
    rw [hk] at hc
    unfold cellV at hc
    simp only at hc
    have hc2 : ∀ o, (w.alloc o).cell? ⟨b, j, none⟩ = some (.int .i64 (V j)) := fun o => (World.cell?_alloc_some w _ o (by rw [hc]; rfl)).trans hc
    have hz2 : ∀ o, (w.alloc o).frozen? ⟨b, j, none⟩ = false := fun o => (HB.out.alloc o).frozen j
    rw [show (placeL b (j, wd)) = [.pointer none, .pointer none, .pointer (some ⟨b, j, none⟩), .pointer none, .int .i64 wd] from by unfold placeL; rw [hk]]
    have hp' := hp (wrap64 y)
    rw [hk] at hp'
    go_enter Tryd.func63, Tryd.ntmps63
    go_wp2_with fail
    go_ret
    exact ⟨rfl, hp'.alloc _, (((Kept.refl (fun x => x = b) w).setIn rfl _).alloc _)⟩
  | is =>
    rw [hk] at hc
    unfold cellV at hc
    simp only at hc
    have hc2 : ∀ o, (w.alloc o).cell? ⟨b, j, none⟩ = some (.bool (decide (V j = 1))) := fun o => (World.cell?_alloc_some w _ o (by rw [hc]; rfl)).trans hc
    have hz2 : ∀ o, (w.alloc o).frozen? ⟨b, j, none⟩ = false := fun o => (HB.out.alloc o).frozen j
    rw [show (placeL b (j, wd)) = [.pointer none, .pointer none, .pointer none, .pointer (some ⟨b, j, none⟩), .int .i64 wd] from by unfold placeL; rw [hk]]
    have hp' := hp (if y = 1 then 1 else 0)
    rw [hk] at hp'
    go_enter Tryd.func63, Tryd.ntmps63
    go_wp2_with fail
    go_ret
    have e : decide ((if y = 1 then (1 : Int) else 0) = 1) = (y == 1) := (by by_cases h : y = 1 <;> simp [h])
    unfold cellV at hp'
    simp only at hp'
    rw [e] at hp'
    exact ⟨rfl, hp'.alloc _, (((Kept.refl (fun x => x = b) w).setIn rfl _).alloc _)⟩
def fitsF (k : FK) (wd : Nat) (x : Int) : Bool := match k with | .n => decide (0 ≤ x ∧ x < 256 ^ wd) | _ => true
theorem placeNum_any (b j wd : Nat) (V : Nat → Int) (hV : okF (fk j) (V j)) (hj : j < 14) (hn : fk j = .n → wd = 1 ∨ wd = 4) (w : World) (h : Blk w b 69 (optL V).toArray) :
    Calls Tryd.prog 56 #[.agg (placeL b (j, wd)).toArray] w fun r w' => ∃ y, r = .returned (.tuple #[.int .u64 y, .bool (fitsF (fk j) wd (V j))]) ∧ (fitsF (fk j) wd (V j) = true → y = V j ∧ 0 ≤ y ∧ y < 18446744073709551616) ∧ Fine w w' := by
  have hc := optL_get h hj
  cases hk : fk j with
  | big =>
    rw [hk] at hc hV
    rw [show (placeL b (j, wd)) = [.pointer (some ⟨b, j, none⟩), .pointer none, .pointer none, .pointer none, .int .i64 wd] from by unfold placeL; rw [hk]]
    refine (number_big b j (V j) wd w hc).mono ?_
    rintro r w' ⟨rfl, f⟩
    exact ⟨_, rfl, fun _ => ⟨rfl, hV.1, hV.2⟩, f⟩
  | word =>
    rw [hk] at hc hV
    rw [show (placeL b (j, wd)) = [.pointer none, .pointer (some ⟨b, j, none⟩), .pointer none, .pointer none, .int .i64 wd] from by unfold placeL; rw [hk]]
    refine (number_word b j (V j) wd hV w hc).mono ?_
    rintro r w' ⟨rfl, f⟩
    exact ⟨_, rfl, fun _ => ⟨rfl, hV.1, by have := hV.2; omega⟩, f⟩
  | n =>
    rw [hk] at hc hV
    rw [show (placeL b (j, wd)) = [.pointer none, .pointer none, .pointer (some ⟨b, j, none⟩), .pointer none, .int .i64 wd] from by unfold placeL; rw [hk]]
    refine (number_num b j (V j) wd (hn hk) w hc).mono ?_
    rintro r w' ⟨y, rfl, hy, f⟩
    refine ⟨y, rfl, fun hf => ?_, f⟩
    unfold fitsF at hf
    simp only [decide_eq_true_eq] at hf
    rw [hy hf.1 hf.2]
    have := hV.2
    exact ⟨rfl, hf.1, by omega⟩
  | is =>
    rw [hk] at hc hV
    rw [show (placeL b (j, wd)) = [.pointer none, .pointer none, .pointer none, .pointer (some ⟨b, j, none⟩), .int .i64 wd] from by unfold placeL; rw [hk]]
    refine (number_is b j (decide (V j = 1)) wd w hc).mono ?_
    rintro r w' ⟨rfl, f⟩
    have e : (if decide (V j = 1) = true then (1 : Int) else 0) = V j := by
      rcases hV with h | h <;> rw [h] <;> rfl
    rw [e]
    exact ⟨_, rfl, fun _ => ⟨rfl, by rcases hV with h | h <;> omega, by rcases hV with h | h <;> omega⟩, f⟩
theorem setV_id {k : FK} {wd : Nat} {x : Int} (h : okF k x) (hf : fitsF k wd x = true) : setV k x = x ∧ setOk k x = true := by
  cases k with
  | big => exact ⟨rfl, rfl⟩
  | word => exact ⟨Int.emod_eq_of_lt h.1 h.2, rfl⟩
  | n =>
    unfold fitsF at hf
    simp only [decide_eq_true_eq] at hf
    have h2 : x < 9223372036854775808 := h.2
    refine ⟨?_, rfl⟩
    unfold setV wrap64
    simp only
    omega
  | is => rcases h with h | h <;> subst h <;> exact ⟨rfl, rfl⟩
end Go.Proofs.YthnennleblgjeaaDoor
