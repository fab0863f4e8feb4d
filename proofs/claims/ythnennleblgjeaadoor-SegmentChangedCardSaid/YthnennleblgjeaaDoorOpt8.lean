/- The laws of option: Find. -/
import Derived.Test.YthnennleblgjeaaDoorOpt7
namespace Go.Proofs.YthnennleblgjeaaDoor
open Go.ChangeShapes Go.WideShapes Go.ChangeAt Go.RowKit
set_option linter.unusedVariables false
theorem firstOf_spec {k : Int} : ∀ {l : List (Nat → Int)} {i : Nat}, firstOf k l = some i → ∃ V, l[i]? = some V ∧ V 0 = k ∧ ∀ U ∈ l.take i, U 0 ≠ k
  | [], i, h => by cases h
  | U :: l, i, h => by
    unfold firstOf at h
    split at h
    · injection h with h
      subst h
      exact ⟨U, rfl, by assumption, fun W hW => by simp at hW⟩
    · obtain ⟨j, hj, rfl⟩ := Option.map_eq_some_iff.1 h
      obtain ⟨V, h1, h2, h3⟩ := firstOf_spec hj
      refine ⟨V, by simpa using h1, h2, fun W hW => ?_⟩
      simp only [List.take_succ_cons, List.mem_cons] at hW
      rcases hW with rfl | hW
      · assumption
      · exact h3 W hW
theorem firstOf_spec0 {k : Int} : ∀ {l : List (Nat → Int)}, firstOf k l = none → ∀ U ∈ l, U 0 ≠ k
  | [], _, U, hU => by cases hU
  | V :: l, h, U, hU => by
    unfold firstOf at h
    split at h
    · cases h
    · rcases List.mem_cons.1 hU with rfl | hU
      · assumption
      · exact firstOf_spec0 (Option.map_eq_none_iff.1 h) U hU
def zeroV : Nat → Int := fun _ => 0
def foundV (k : Int) (l : List (Nat → Int)) : Nat → Int := match firstOf k l with | some i => l.getD i zeroV | none => zeroV
end Go.Proofs.YthnennleblgjeaaDoor
