/-
  No function of the program holds a go statement: the card's closed fact 'goesBy' is false.
-/
import Derived.Test.YtgfahpnndmocbaaGreatDoorCards
import Derived.KernelRfl
namespace Go.Proofs.YtgfahpnndmocbaaGreatDoor
set_option linter.unusedVariables false
theorem noGo : Tryz.prog.funcs.toList.all (fun f => !f.goes) = true := by kernel_rfl

theorem goesNone (f : FuncId) : Tryz.prog.goes f = false := by
  have h : ∀ g : FuncId, ((Tryz.prog.funcs[g]?).any Func.goes) = false := by
    intro g
    cases hg : Tryz.prog.funcs[g]? with
    | none => rfl
    | some fn =>
      have hm : fn ∈ Tryz.prog.funcs.toList := by
        have := Array.mem_of_getElem? hg
        exact Array.mem_toList_iff.2 this
      have := List.all_eq_true.1 noGo fn hm
      simpa using this
  have h2 : Tryz.prog.funcs.any Func.goes = false := by
    rw [← Array.any_toList]
    apply List.any_eq_false.2
    intro fn hm
    have := List.all_eq_true.1 noGo fn hm
    simpa using this
  unfold Program.goes
  rw [h2]
  simp [h]

theorem goesFalse (c : OpenClaim) (hs : c.start = .entering) : false = c.goesBy Tryz.prog := by
  unfold OpenClaim.goesBy Program.goesAt Program.goesFrom
  rw [hs]
  cases Tryz.prog.funcNamed c.func with
  | none => rfl
  | some f => simp [goesNone]
end Go.Proofs.YtgfahpnndmocbaaGreatDoor
