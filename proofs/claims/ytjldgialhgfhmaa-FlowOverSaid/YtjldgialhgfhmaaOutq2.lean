/- Package outq: a queue; New, Begin, End, Len, All; serial.Steps and On. -/
import Derived.Test.YtjldgialhgfhmaaOutq1
import Derived.Deep.LoopGhost
namespace Go.Proofs.Ytjldgialhgfhmaa
open Go.ChangeShapes Go.WideShapes Go.ChangeAt Go.RowKit
set_option linter.unusedVariables false

/-- From one number of 32 bits to another. -/
def dist (a b : Int) : Int := (b - a) % 4294967296
theorem dist_bd (a b : Int) : 0 ≤ dist a b ∧ dist a b < 4294967296 := by unfold dist; omega
def onN (a n : Int) : Int := (a + n) % 4294967296
theorem steps_any (a b : Int) (w : World) :
    Calls Try.prog 88 #[.agg #[.int .u32 a], .int .u32 b] w fun e w' => e = .returned (.int .u32 (dist a b)) ∧ Fine w w' := by
  go_enter Try.func88, Try.ntmps88
  go_wp2
  go_ret
  exact ⟨by rfl, (by repeat (first | exact Fine.refl _ | assumption | refine Fine.alloc ?_ _ | refine Fine.drew ?_ | refine Fine.drewN ?_ _ | refine Fine.trans ?_ (by assumption) | (refine Fine.kept ?_ (by assumption) (by intro x hx; first | omega | (simp; omega))) | (refine Fine.setCell ?_ (by first | assumption | (simp; done) | (simp; omega)) _)))⟩
theorem slong_any (a b : Int) (w : World) :
    Calls Try.prog 82 #[.agg #[.int .u32 a, .int .u32 b]] w fun e w' => e = .returned (.int .u32 (dist a b)) ∧ Fine w w' := by
  go_enter Try.func82, Try.ntmps82
  go_wp2_with (go_at_call 88; refine (steps_any _ _ _).mono ?_; rintro e w' ⟨rfl, hg⟩)
  go_ret
  exact ⟨rfl, (by repeat (first | exact Fine.refl _ | assumption | refine Fine.alloc ?_ _ | refine Fine.drew ?_ | refine Fine.drewN ?_ _ | refine Fine.trans ?_ (by assumption) | (refine Fine.kept ?_ (by assumption) (by intro x hx; first | omega | (simp; omega))) | (refine Fine.setCell ?_ (by first | assumption | (simp; done) | (simp; omega)) _)))⟩
theorem Steps_any (a b : Int) (w : World) :
    Calls Try.prog 67 #[.int .u32 a, .int .u32 b] w fun e w' => e = .returned (.int .i64 (dist a b)) ∧ Fine w w' := by
  have hd := dist_bd a b
  go_enter Try.func67, Try.ntmps67
  go_wp2_with (go_at_call 82; refine (slong_any _ _ _).mono ?_; rintro e w' ⟨rfl, hg⟩)
  go_ret
  exact ⟨rfl, (by repeat (first | exact Fine.refl _ | assumption | refine Fine.alloc ?_ _ | refine Fine.drew ?_ | refine Fine.drewN ?_ _ | refine Fine.trans ?_ (by assumption) | (refine Fine.kept ?_ (by assumption) (by intro x hx; first | omega | (simp; omega))) | (refine Fine.setCell ?_ (by first | assumption | (simp; done) | (simp; omega)) _)))⟩
theorem On_any (a n : Int) (w : World) :
    Calls Try.prog 66 #[.int .u32 a, .int .i64 n] w fun e w' => e = .returned (.int .u32 (onN a n)) ∧ Fine w w' := by
  go_enter Try.func66, Try.ntmps66
  go_wp2
  go_ret
  refine ⟨?_, (by repeat (first | exact Fine.refl _ | assumption | refine Fine.alloc ?_ _ | refine Fine.drew ?_ | refine Fine.drewN ?_ _ | refine Fine.trans ?_ (by assumption) | (refine Fine.kept ?_ (by assumption) (by intro x hx; first | omega | (simp; omega))) | (refine Fine.setCell ?_ (by first | assumption | (simp; done) | (simp; omega)) _)))⟩
  simp [onN]
/-- A queue that lies at g, in blocks of a kind. -/
def QT (t : TypeId) (w : World) (F : Nat → Prop) (g : Nat) (ps : List Pc) (e : Int) : Prop :=
  ∃ A c rs, Blk w g t #[.slice A rs.length c, .int .u32 e] ∧ Own layP 46 w (g + 1) (.slice A rs.length c) rs ∧ Iss w (fun b => F b ∧ b ≠ g ∧ ∀ o, A ≠ some ⟨b, o, none⟩) rs ps ∧ F g ∧ (∀ b o, A = some ⟨b, o, none⟩ → F b) ∧ (∀ b, F b → b < w.heap.size)
/-- The program's queue; the document's. -/
abbrev QB := QT 107
abbrev RB := QT 59
theorem Own.block_ {α : Type} {n : Nat} {E : Lay α n} {e : TypeId} {w : World} {base : Nat} {A : Option Addr} {m c k : Nat} {xs : List α} (h : Own E e w base (.slice A m c) xs) (hk : (Value.slice A m c).ownBlock = some k) : A = some ⟨k, 0, none⟩ := by
  obtain ⟨_, h⟩ := h
  rcases h with ⟨e1, _⟩ | ⟨g, cap, cur, e1, _⟩
  · injection e1 with e1
    subst e1
    cases hk
  · injection e1 with e1
    subst e1
    injection hk with hk
    subst hk
    rfl
theorem QT.kept {t : TypeId} {w w' : World} {F S : Nat → Prop} {g : Nat} {ps : List Pc} {e : Int} (h : QT t w F g ps e) (hf : Kept S w w') (hd : ∀ b, F b → ¬ S b) : QT t w' F g ps e := by
  obtain ⟨A, c, rs, h1, h2, h3, h4, h5, h6⟩ := h
  refine ⟨A, c, rs, ?_, ?_, h3.kept hf (fun b hb => hd b hb.1), h4, h5, fun b hb => Nat.lt_of_lt_of_le (h6 b hb) hf.size⟩
  · exact h1.kept hf (hd g h4)
  · exact h2.kept hf (fun k hk => hd k (h5 k 0 (h2.block_ hk)))
theorem QT.fine {t : TypeId} {w w' : World} {F : Nat → Prop} {g : Nat} {ps : List Pc} {e : Int} (h : QT t w F g ps e) (hf : Fine w w') : QT t w' F g ps e := h.kept (Kept.of_fine (S := fun _ => False) hf) (fun _ _ => id)
def beginQ (ps : List Pc) (e : Int) : Int := match ps with | [] => e | p :: _ => p.seq
theorem new_any (s : Int) (w : World) : Calls Try.prog 27 #[.int .u32 s] w fun e w' => e = .returned (.pointer (some ⟨w.heap.size, 0, none⟩)) ∧ QB w' (· = w.heap.size) w.heap.size [] s ∧ Fine w w' := by
  go_enter Try.func27, Try.ntmps27
  go_wp2_with fail
  go_ret
  refine ⟨rfl, ⟨none, 0, [], Blk.new w 107 _, Own.nil_ _ _ _ _, Iss.nil_ _ _, rfl, (fun b o h => by cases h), (fun b hb => by subst hb; simp)⟩, (by repeat (first | exact Fine.refl _ | assumption | refine Fine.alloc ?_ _ | refine Fine.drew ?_ | refine Fine.drewN ?_ _ | refine Fine.trans ?_ (by assumption) | (refine Fine.kept ?_ (by assumption) (by intro x hx; first | omega | (simp; omega))) | (refine Fine.setCell ?_ (by first | assumption | (simp; done) | (simp; omega)) _)))⟩
theorem end_any (g : Nat) (F : Nat → Prop) (ps : List Pc) (e : Int) (w : World) (h : QB w F g ps e) : Calls Try.prog 33 #[.pointer (some ⟨g, 0, none⟩)] w fun x w' => x = .returned (.int .u32 e) ∧ Fine w w' := by
  obtain ⟨A, c, rs, h1, h2, h3, h4, h5, h6⟩ := h
  have c1 : w.cell? ⟨g, 1, none⟩ = some (.int .u32 e) := h1.cell 1
  clear h1 h2 h3 h4 h5 h6
  go_enter Try.func33, Try.ntmps33
  go_wp2_with fail
  go_ret
  exact ⟨rfl, (by repeat (first | exact Fine.refl _ | assumption | refine Fine.alloc ?_ _ | refine Fine.drew ?_ | refine Fine.drewN ?_ _ | refine Fine.trans ?_ (by assumption) | (refine Fine.kept ?_ (by assumption) (by intro x hx; first | omega | (simp; omega))) | (refine Fine.setCell ?_ (by first | assumption | (simp; done) | (simp; omega)) _)))⟩
theorem end_nil (w : World) : Calls Try.prog 33 #[.pointer none] w fun x w' => x = .returned (.int .u32 0) ∧ Fine w w' := by
  go_enter Try.func33, Try.ntmps33
  go_wp2_with fail
  go_ret
  exact ⟨rfl, (by repeat (first | exact Fine.refl _ | assumption | refine Fine.alloc ?_ _ | refine Fine.drew ?_ | refine Fine.drewN ?_ _ | refine Fine.trans ?_ (by assumption) | (refine Fine.kept ?_ (by assumption) (by intro x hx; first | omega | (simp; omega))) | (refine Fine.setCell ?_ (by first | assumption | (simp; done) | (simp; omega)) _)))⟩
theorem len_any (g : Nat) (F : Nat → Prop) (ps : List Pc) (e : Int) (w : World) (h : QB w F g ps e) : Calls Try.prog 34 #[.pointer (some ⟨g, 0, none⟩)] w fun x w' => x = .returned (.int .i64 ps.length) ∧ Fine w w' := by
  obtain ⟨A, c, rs, h1, h2, h3, h4, h5, h6⟩ := h
  have c0 : w.cell? ⟨g, 0, none⟩ = some (.slice A rs.length c) := h1.cell 0
  have hl := Lib.hid h3.1
  clear h1 h2 h3 h4 h5 h6
  go_enter Try.func34, Try.ntmps34
  go_wp2_with fail
  go_ret
  exact ⟨by rw [← hl.out]; rfl, (by repeat (first | exact Fine.refl _ | assumption | refine Fine.alloc ?_ _ | refine Fine.drew ?_ | refine Fine.drewN ?_ _ | refine Fine.trans ?_ (by assumption) | (refine Fine.kept ?_ (by assumption) (by intro x hx; first | omega | (simp; omega))) | (refine Fine.setCell ?_ (by first | assumption | (simp; done) | (simp; omega)) _)))⟩
theorem len_nil (w : World) : Calls Try.prog 34 #[.pointer none] w fun x w' => x = .returned (.int .i64 0) ∧ Fine w w' := by
  go_enter Try.func34, Try.ntmps34
  go_wp2_with fail
  go_ret
  exact ⟨rfl, (by repeat (first | exact Fine.refl _ | assumption | refine Fine.alloc ?_ _ | refine Fine.drew ?_ | refine Fine.drewN ?_ _ | refine Fine.trans ?_ (by assumption) | (refine Fine.kept ?_ (by assumption) (by intro x hx; first | omega | (simp; omega))) | (refine Fine.setCell ?_ (by first | assumption | (simp; done) | (simp; omega)) _)))⟩
theorem begin_nil (w : World) : Calls Try.prog 32 #[.pointer none] w fun x w' => x = .returned (.int .u32 0) ∧ Fine w w' := by
  go_enter Try.func32, Try.ntmps32
  go_wp2_with fail
  go_ret
  exact ⟨rfl, (by repeat (first | exact Fine.refl _ | assumption | refine Fine.alloc ?_ _ | refine Fine.drew ?_ | refine Fine.drewN ?_ _ | refine Fine.trans ?_ (by assumption) | (refine Fine.kept ?_ (by assumption) (by intro x hx; first | omega | (simp; omega))) | (refine Fine.setCell ?_ (by first | assumption | (simp; done) | (simp; omega)) _)))⟩
theorem all_nil (w : World) : Calls Try.prog 40 #[.pointer none] w fun x w' => x = .returned (.slice none 0 0) ∧ Fine w w' := by
  go_enter Try.func40, Try.ntmps40
  go_wp2_with fail
  go_ret
  exact ⟨rfl, (by repeat (first | exact Fine.refl _ | assumption | refine Fine.alloc ?_ _ | refine Fine.drew ?_ | refine Fine.drewN ?_ _ | refine Fine.trans ?_ (by assumption) | (refine Fine.kept ?_ (by assumption) (by intro x hx; first | omega | (simp; omega))) | (refine Fine.setCell ?_ (by first | assumption | (simp; done) | (simp; omega)) _)))⟩
theorem ack_nil (n : Int) (w : World) : Calls Try.prog 30 #[.pointer none, .int .u32 n] w fun x w' => x = .returned (.tuple #[.slice none 0 0, .bool false]) ∧ Fine w w' := by
  go_enter Try.func30, Try.ntmps30
  go_wp2_with fail
  go_step3
  go_wp2_with fail
  try rw [Exit.noGoto_ret]
  go_ret2
  exact ⟨rfl, (by repeat (first | exact Fine.refl _ | assumption | refine Fine.alloc ?_ _ | refine Fine.drew ?_ | refine Fine.drewN ?_ _ | refine Fine.trans ?_ (by assumption) | (refine Fine.kept ?_ (by assumption) (by intro x hx; first | omega | (simp; omega))) | (refine Fine.setCell ?_ (by first | assumption | (simp; done) | (simp; omega)) _)))⟩
end Go.Proofs.Ytjldgialhgfhmaa
