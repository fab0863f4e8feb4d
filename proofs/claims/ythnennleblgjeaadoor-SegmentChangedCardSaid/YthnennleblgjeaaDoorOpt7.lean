/- The laws of option: the example; of any options the first one of a kind is found. -/
import Derived.Test.YthnennleblgjeaaDoorOpt6
namespace Go.Proofs.YthnennleblgjeaaDoor
open Go.ChangeShapes Go.WideShapes Go.ChangeAt Go.RowKit
set_option linter.unusedVariables false
def prioV : Nat → Int := fun k => if k = 0 then 8 else if k = 7 then 1 else 0
theorem prio_right : rightF prioV = true := by kernel_rfl
theorem prio_bytes : [prioV].flatMap optB = [8, 1] := by kernel_rfl
theorem prio_ok : OkV prioV := by
  intro j hj
  match j, hj with
  | 0, _ | 5, _ | 6, _ | 9, _ | 11, _ | 12, _ => (show _ ∧ _); decide
  | 1, _ | 2, _ | 3, _ | 4, _ => (show _ ∧ _); decide
  | 7, _ => exact .inr rfl
  | 8, _ | 10, _ | 13, _ => exact .inl rfl
/-- Where the first one of a kind is. -/
def firstOf (k : Int) : List (Nat → Int) → Option Nat
  | [] => none
  | V :: l => if V 0 = k then some 0 else (firstOf k l).map (· + 1)
theorem firstOf_some {k : Int} : ∀ {l : List (Nat → Int)} {i : Nat} {V : Nat → Int}, l[i]? = some V → V 0 = k → (∀ U ∈ l.take i, U 0 ≠ k) → firstOf k l = some i
  | [], i, V, h, _, _ => by simp at h
  | U :: l, 0, V, h, hk, _ => by
    simp at h; subst h
    unfold firstOf
    rw [if_pos hk]
  | U :: l, i + 1, V, h, hk, hn => by
    unfold firstOf
    rw [if_neg (hn U (by simp)), firstOf_some (l := l) (i := i) (by simpa using h) hk (fun W hW => hn W (by simp [hW]))]
    rfl
theorem firstOf_none {k : Int} : ∀ {l : List (Nat → Int)}, (∀ U ∈ l, U 0 ≠ k) → firstOf k l = none
  | [], _ => rfl
  | U :: l, h => by
    unfold firstOf
    rw [if_neg (h U (by simp)), firstOf_none (fun W hW => h W (by simp [hW]))]
    rfl
def idxOf (k : Int) (l : List (Nat → Int)) : Int := match firstOf k l with | some i => (i : Int) | none => -1
end Go.Proofs.YthnennleblgjeaaDoor
