/- The laws of option: an option's cells, and when two are the same. -/
import Derived.Test.YthnennleblgjeaaDoorMa
import Derived.Test.YthnennleblgjeaaDoorMb
import Derived.Laws.StructEq
import Derived.Lib.Hide
namespace Go.Proofs.YthnennleblgjeaaDoor
set_option linter.unusedVariables false
set_option linter.unusedSimpArgs false
open Go.ChangeShapes Go.WideShapes Go.ChangeAt Go.RowKit
set_option linter.unusedVariables false

theorem eq_step {α : Type} [DecidableEq α] {a c : α} {r : Result Bool} {b : Bool} {w : World} (h : r = .ok b w) : (if a = c then r else .ok false w) = .ok (a == c && b) w := by
  by_cases e : a = c <;> simp [e, h]
set_option maxHeartbeats 2000000 in
set_option maxRecDepth 20000 in
theorem eq56 (a0 a1 a2 a3 a4 a5 a6 a9 a11 a12 c0 c1 c2 c3 c4 c5 c6 c9 c11 c12 : Int) (a7 a8 a10 a13 c7 c8 c10 c13 : Bool) (w : World) :
    (Op.equalIn 10000 69 (.agg #[.int .i64 a0, .int .u64 a1, .int .u64 a2, .int .u32 a3, .int .u32 a4, .int .i64 a5, .int .i64 a6, .bool a7, .bool a8, .int .i64 a9, .bool a10, .int .i64 a11, .int .i64 a12, .bool a13])
      (.agg #[.int .i64 c0, .int .u64 c1, .int .u64 c2, .int .u32 c3, .int .u32 c4, .int .i64 c5, .int .i64 c6, .bool c7, .bool c8, .int .i64 c9, .bool c10, .int .i64 c11, .int .i64 c12, .bool c13])).run Tryd.prog w
    = .ok (a0 == c0 && (a1 == c1 && (a2 == c2 && (a3 == c3 && (a4 == c4 && (a5 == c5 && (a6 == c6 && (a7 == c7 && (a8 == c8 && (a9 == c9 && (a10 == c10 && (a11 == c11 && (a12 == c12 && a13 == c13))))))))))))) w := by
  have hS : Tryd.prog.underlying 69 = some (.struct (Tryd.prog.fieldsOf 69)) := by kernel_rfl
  have hp : Tryd.prog.stoodInHeld 69 = false := by kernel_rfl
  rw [show (10000 : Nat) = 9999 + 1 from rfl, run_equalIn_agg w 9999 69 _ _ hS hp]
  simp only [Program.fieldsOf, Tryd.underlying69]
  go_simp
  refine eq_step (eq_step (eq_step (eq_step (eq_step (eq_step (eq_step (eq_step (eq_step (eq_step (eq_step (eq_step (eq_step ?_))))))))))))
  by_cases e : a13 = c13 <;> simp [e]

inductive FK where
  | big | word | n | is
/-- The kinds of an option's cells. -/
def fk : Nat → FK
  | 1 => .big | 2 => .big | 3 => .word | 4 => .word | 7 => .is | 8 => .is | 10 => .is | 13 => .is | _ => .n
def cellV (k : FK) (x : Int) : Value := match k with | .big => .int .u64 x | .word => .int .u32 x | .n => .int .i64 x | .is => .bool (decide (x = 1))
/-- An option's cells. -/
abbrev optL (V : Nat → Int) : List Value := [.int .i64 (V 0), .int .u64 (V 1), .int .u64 (V 2), .int .u32 (V 3), .int .u32 (V 4), .int .i64 (V 5), .int .i64 (V 6), .bool (decide (V 7 = 1)), .bool (decide (V 8 = 1)), .int .i64 (V 9), .bool (decide (V 10 = 1)), .int .i64 (V 11), .int .i64 (V 12), .bool (decide (V 13 = 1))]
theorem optL_at (V : Nat → Int) (j : Nat) (hj : j < 14) : (optL V)[j]? = some (cellV (fk j) (V j)) := by
  match j, hj with
  | 0, _ => rfl | 1, _ => rfl | 2, _ => rfl | 3, _ => rfl | 4, _ => rfl | 5, _ => rfl | 6, _ => rfl | 7, _ => rfl | 8, _ => rfl | 9, _ => rfl | 10, _ => rfl | 11, _ => rfl | 12, _ => rfl | 13, _ => rfl
def upd (V : Nat → Int) (j : Nat) (x : Int) : Nat → Int := fun i => if i = j then x else V i
theorem optL_set (V : Nat → Int) (j : Nat) (hj : j < 14) (x : Int) : (optL V).toArray.setIfInBounds j (cellV (fk j) x) = (optL (upd V j x)).toArray := by
  match j, hj with
  | 0, _ => rfl | 1, _ => rfl | 2, _ => rfl | 3, _ => rfl | 4, _ => rfl | 5, _ => rfl | 6, _ => rfl | 7, _ => rfl | 8, _ => rfl | 9, _ => rfl | 10, _ => rfl | 11, _ => rfl | 12, _ => rfl | 13, _ => rfl
/-- What may stand in a cell. -/
def okF (k : FK) (x : Int) : Prop := match k with | .big => 0 ≤ x ∧ x < 18446744073709551616 | .word => 0 ≤ x ∧ x < 4294967296 | .n => -9223372036854775808 ≤ x ∧ x < 9223372036854775808 | .is => x = 0 ∨ x = 1
def OkV (V : Nat → Int) : Prop := ∀ j, j < 14 → okF (fk j) (V j)
def optEq (V V' : Nat → Int) : Bool := ((V 0 == V' 0) && ((V 1 == V' 1) && ((V 2 == V' 2) && ((V 3 == V' 3) && ((V 4 == V' 4) && ((V 5 == V' 5) && ((V 6 == V' 6) && ((decide (V 7 = 1) == decide (V' 7 = 1)) && ((decide (V 8 = 1) == decide (V' 8 = 1)) && ((V 9 == V' 9) && ((decide (V 10 = 1) == decide (V' 10 = 1)) && ((V 11 == V' 11) && ((V 12 == V' 12) && (decide (V 13 = 1) == decide (V' 13 = 1)))))))))))))))
theorem optEq_iff {V V' : Nat → Int} (h : OkV V) (h' : OkV V') : optEq V V' = true ↔ ∀ j, j < 14 → V j = V' j := by
  have key : ∀ x y : Int, (x = 0 ∨ x = 1) → (y = 0 ∨ y = 1) → ((decide (x = 1) == decide (y = 1)) = true ↔ x = y) := fun x y hx hy => by
    rcases hx with rfl | rfl <;> rcases hy with rfl | rfl <;> simp
  have k7 := key _ _ (h 7 (by omega)) (h' 7 (by omega))
  have k8 := key _ _ (h 8 (by omega)) (h' 8 (by omega))
  have k10 := key _ _ (h 10 (by omega)) (h' 10 (by omega))
  have k13 := key _ _ (h 13 (by omega)) (h' 13 (by omega))
  unfold optEq
  simp only [Bool.and_eq_true, beq_iff_eq (α := Int), k7, k8, k10, k13]
  constructor
  · rintro ⟨e0, e1, e2, e3, e4, e5, e6, e7, e8, e9, e10, e11, e12, e13⟩ j hj
    match j, hj with
    | 0, _ => exact e0 | 1, _ => exact e1 | 2, _ => exact e2 | 3, _ => exact e3 | 4, _ => exact e4 | 5, _ => exact e5 | 6, _ => exact e6 | 7, _ => exact e7 | 8, _ => exact e8 | 9, _ => exact e9 | 10, _ => exact e10 | 11, _ => exact e11 | 12, _ => exact e12 | 13, _ => exact e13
  · intro e
    exact ⟨e 0 (by omega), e 1 (by omega), e 2 (by omega), e 3 (by omega), e 4 (by omega), e 5 (by omega), e 6 (by omega), e 7 (by omega), e 8 (by omega), e 9 (by omega), e 10 (by omega), e 11 (by omega), e 12 (by omega), e 13 (by omega)⟩
/-- A kind's fields: which cell, how many bytes. -/
def fieldsOf (k : Int) : List (Nat × Nat) := match k with
  | 1 => [(1, 8)]
  | 2 => [(3, 4), (4, 4), (5, 1), (7, 1)]
  | 3 => [(2, 8), (4, 4)]
  | 4 => [(2, 8)]
  | 5 => [(8, 1), (9, 4), (10, 1), (11, 4), (12, 1), (13, 1)]
  | 6 => [(5, 1)]
  | 7 => [(5, 1)]
  | 8 => [(7, 1)]
  | 9 => [(11, 4)]
  | 10 => [(1, 8)]
  | 11 => [(6, 1)]
  | _ => []
def placeL (b : Nat) (p : Nat × Nat) : List Value := match fk p.1 with
  | .big => [.pointer (some ⟨b, p.1, none⟩), .pointer none, .pointer none, .pointer none, .int .i64 p.2]
  | .word => [.pointer none, .pointer (some ⟨b, p.1, none⟩), .pointer none, .pointer none, .int .i64 p.2]
  | .n => [.pointer none, .pointer none, .pointer (some ⟨b, p.1, none⟩), .pointer none, .int .i64 p.2]
  | .is => [.pointer none, .pointer none, .pointer none, .pointer (some ⟨b, p.1, none⟩), .int .i64 p.2]
def layPl (b : Nat) : Lay (Nat × Nat) 5 := { cs := placeL b, len := fun p => by unfold placeL; split <;> rfl, one := fun p u hu => by (unfold placeL at hu; split at hu <;> simp at hu <;> rcases hu with rfl | rfl | rfl | rfl | rfl <;> rfl), pos := by decide }
end Go.Proofs.YthnennleblgjeaaDoor
