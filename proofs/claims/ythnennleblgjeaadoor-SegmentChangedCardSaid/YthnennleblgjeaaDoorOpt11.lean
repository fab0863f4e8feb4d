/- The laws of option: what Get answers. -/
import Derived.Test.YthnennleblgjeaaDoorOpt8
namespace Go.Proofs.YthnennleblgjeaaDoor
open Go.ChangeShapes Go.WideShapes Go.ChangeAt Go.RowKit
set_option linter.unusedVariables false
/-- A kind's fields, taken one by one off some bytes. -/
def takeAll : List (Nat × Nat) → (Nat → Int) → List Int → Bool → Option ((Nat → Int) × List Int × Bool)
  | [], V, xs, t => some (V, xs, t)
  | p :: F, V, xs, t => if xs.length < p.2 then none else takeAll F (upd V p.1 (setV (fk p.1) (num (xs.take p.2)))) (xs.drop p.2) (setOk (fk p.1) (num (xs.take p.2)) && t)
def kindV (k : Int) : Nat → Int := fun j => if j = 0 then k else 0
def getR (xs : List Int) : (Nat → Int) × List Int × Int :=
  if xs = [] then (zeroV, [], 3)
  else match takeAll (fieldsOf (num (xs.take 1))) (kindV (num (xs.take 1))) (xs.drop 1) true with
    | none => (zeroV, [], 3)
    | some (V, r, t) => if t && rightF V then (V, r, 0) else (zeroV, [], 4)
theorem setV_ok (k : FK) {y : Int} (hy : 0 ≤ y ∧ y < 18446744073709551616) : okF k (setV k y) := by
  cases k with
  | big => exact hy
  | word =>
    have g : 0 ≤ y % 4294967296 ∧ y % 4294967296 < 4294967296 := by omega
    exact g
  | n =>
    have g : -9223372036854775808 ≤ wrap64 y ∧ wrap64 y < 9223372036854775808 := by unfold wrap64; omega
    exact g
  | is =>
    have g : (if y = 1 then (1 : Int) else 0) = 0 ∨ (if y = 1 then (1 : Int) else 0) = 1 := by split <;> simp
    exact g
theorem OkV.upd {V : Nat → Int} (h : OkV V) (j : Nat) {x : Int} (hx : okF (fk j) x) : OkV (upd V j x) := fun i hi => by
  unfold Go.Proofs.YthnennleblgjeaaDoor.upd
  by_cases e : i = j
  · subst e; rw [if_pos rfl]; exact hx
  · rw [if_neg e]; exact h i hi
theorem zeroV_ok : OkV zeroV := by
  intro j hj
  match j, hj with
  | 0, _ | 5, _ | 6, _ | 9, _ | 11, _ | 12, _ => (show _ ∧ _); decide
  | 1, _ | 2, _ | 3, _ | 4, _ => (show _ ∧ _); decide
  | 7, _ | 8, _ | 10, _ | 13, _ => exact .inl rfl
theorem kindV_ok {k : Int} (hk : 0 ≤ k ∧ k < 256) : OkV (kindV k) := by
  have h := zeroV_ok.upd 0 (x := k) (show okF .n k from (show -9223372036854775808 ≤ k ∧ k < 9223372036854775808 by omega))
  have e : upd zeroV 0 k = kindV k := rfl
  rw [← e]
  exact h
end Go.Proofs.YthnennleblgjeaaDoor
