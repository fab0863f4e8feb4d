/-
  NARROWER THAN 'FOR EVERY INPUT', by the rows' own cells (each row's printed sentence says how): CloseSteps: laid · CloseSides: laid · ClosePaths: laid · CloseEnds: laid.
  DERIVED. THE GIVEN ROWS OF THIS SEAT. 4 by the template 'for every input the law returns true; each argument reads behind the call as it read before'; 0 by the template 'total and deterministic' (their statements: YtbhledflfejdmaaDoorTotals.lean).
  GIVEN WITH THE SEED: the statements are not yours to turn. If you find one false, say at which input.
  Laid BY PROGRAM, IN A SANDBOX (cutbox-rows.mjs): the forced cells as the released guide's own fill.sh prints them over the translation f48d1ff92d9fd46c… (all of the seat's roots in one cut). By AI agents, Wed Nov 11 2026. No macro, syntax, notation, axiom, sorry.
-/
import Derived.Test.YtbhledflfejdmaaDoorChecked
import GoSem.Claim
import GoSem.ClaimJoined
import GoSem.ClaimMapViews
import Derived.JoinedTies
import Derived.KernelRfl
namespace Go.Proofs.YtbhledflfejdmaaDoor
/- THE CELL 'sum', in the pinned program and in every row, IS THE sha256 OF THE DUMP (.gsa) THAT YtbhledflfejdmaaDoorProg.lean LOADS. Nothing in Lean hashes anything: it is a label: what it is worth is what the hold of that sum in a sandbox is worth. -/
noncomputable def Tryd.pinned : Pinned := { name := "ytbhledflfejdmaadoor", sum := "f48d1ff92d9fd46c4301e32448293a46ab5655debf32f2a24153fde03c413672", checked := Tryd.checked }
namespace Rows
def none {H : Type} : Left H := { results := [], args := [] }

/- WHAT THE LISTED PACKAGE-LEVEL VARIABLES READ AS WHEN THE CALL BEGINS. Each datum BY PROGRAM (the guide's laid-datum.mjs) off the statement by which the dump's own 'gosem.cut.vars' lays the variable. In a bare row this is a premise. The card (YtbhledflfejdmaaDoorCards.lean) ties it to the program's text. -/
def laid_ferrybridge_close_moves {H : Type} : DataW H := .agg [.agg [.agg [.lit (.int .i64 0), .lit (.int .i64 0)], .lit (.int .i64 1)], .agg [.agg [.lit (.int .i64 1), .lit (.int .i64 1)], .lit (.int .i64 2)], .agg [.agg [.lit (.int .i64 1), .lit (.int .i64 3)], .lit (.int .i64 4)], .agg [.agg [.lit (.int .i64 2), .lit (.int .i64 2)], .lit (.int .i64 3)], .agg [.agg [.lit (.int .i64 2), .lit (.int .i64 3)], .lit (.int .i64 5)], .agg [.agg [.lit (.int .i64 3), .lit (.int .i64 3)], .lit (.int .i64 7)], .agg [.agg [.lit (.int .i64 4), .lit (.int .i64 1)], .lit (.int .i64 6)], .agg [.agg [.lit (.int .i64 5), .lit (.int .i64 2)], .lit (.int .i64 7)], .agg [.agg [.lit (.int .i64 6), .lit (.int .i64 2)], .lit (.int .i64 7)], .agg [.agg [.lit (.int .i64 7), .lit (.int .i64 4)], .lit (.int .i64 8)]]

/-- 'ferrybridgelaw19.CloseSteps': WHATEVER THE INPUT: true; the input reads as it did. -/
def closeStepsSpec : ChangeSpec := { name := "closeSteps", fn := fun _ => fun
  | [d1, d2] => { results := [.lit (.bool true)], args := [d1, d2] }
  | _ => none }
def closeStepsRow : OpenClaim := { program := "ytbhledflfejdmaadoor", sum := "f48d1ff92d9fd46c4301e32448293a46ab5655debf32f2a24153fde03c413672", func := "ferrybridge/ferrybridgelaw19.CloseSteps", spec := "closeSteps", named := ["ferrybridge/close.moves"], apart := false, laid := [("ferrybridge/close.moves", laid_ferrybridge_close_moves)] }
def CloseStepsSaid : Prop := closeStepsRow.holds Tryd.pinned (OpenSpec.ofChange closeStepsSpec)

/-- ITS FALSE NEIGHBOUR: 'it returns false'. Refute it at one input. -/
def closeStepsWrong : ChangeSpec := { name := "closeSteps", fn := fun _ => fun
  | [d1, d2] => { results := [.lit (.bool false)], args := [d1, d2] }
  | _ => none }
def CloseStepsWrongFalsely : Prop := closeStepsRow.holds Tryd.pinned (OpenSpec.ofChange closeStepsWrong)

/-- 'ferrybridgelaw19.CloseSides': WHATEVER THE INPUT: true; the input reads as it did. -/
def closeSidesSpec : ChangeSpec := { name := "closeSides", fn := fun _ => fun
  | [d] => { results := [.lit (.bool true)], args := [d] }
  | _ => none }
def closeSidesRow : OpenClaim := { program := "ytbhledflfejdmaadoor", sum := "f48d1ff92d9fd46c4301e32448293a46ab5655debf32f2a24153fde03c413672", func := "ferrybridge/ferrybridgelaw19.CloseSides", spec := "closeSides", named := ["ferrybridge/close.moves"], apart := false, laid := [("ferrybridge/close.moves", laid_ferrybridge_close_moves)] }
def CloseSidesSaid : Prop := closeSidesRow.holds Tryd.pinned (OpenSpec.ofChange closeSidesSpec)

/-- ITS FALSE NEIGHBOUR: 'it returns false'. Refute it at one input. -/
def closeSidesWrong : ChangeSpec := { name := "closeSides", fn := fun _ => fun
  | [d] => { results := [.lit (.bool false)], args := [d] }
  | _ => none }
def CloseSidesWrongFalsely : Prop := closeSidesRow.holds Tryd.pinned (OpenSpec.ofChange closeSidesWrong)

/-- 'ferrybridgelaw19.ClosePaths': WHATEVER THE INPUT: true; the input reads as it did. -/
def closePathsSpec : ChangeSpec := { name := "closePaths", fn := fun _ => fun
  | [d] => { results := [.lit (.bool true)], args := [d] }
  | _ => none }
def closePathsRow : OpenClaim := { program := "ytbhledflfejdmaadoor", sum := "f48d1ff92d9fd46c4301e32448293a46ab5655debf32f2a24153fde03c413672", func := "ferrybridge/ferrybridgelaw19.ClosePaths", spec := "closePaths", named := ["ferrybridge/close.moves"], apart := false, laid := [("ferrybridge/close.moves", laid_ferrybridge_close_moves)] }
def ClosePathsSaid : Prop := closePathsRow.holds Tryd.pinned (OpenSpec.ofChange closePathsSpec)

/-- ITS FALSE NEIGHBOUR: 'it returns false'. Refute it at one input. -/
def closePathsWrong : ChangeSpec := { name := "closePaths", fn := fun _ => fun
  | [d] => { results := [.lit (.bool false)], args := [d] }
  | _ => none }
def ClosePathsWrongFalsely : Prop := closePathsRow.holds Tryd.pinned (OpenSpec.ofChange closePathsWrong)

/-- 'ferrybridgelaw19.CloseEnds': WHATEVER THE INPUT: true; the input reads as it did. -/
def closeEndsSpec : ChangeSpec := { name := "closeEnds", fn := fun _ => fun
  | [d1, d2] => { results := [.lit (.bool true)], args := [d1, d2] }
  | _ => none }
def closeEndsRow : OpenClaim := { program := "ytbhledflfejdmaadoor", sum := "f48d1ff92d9fd46c4301e32448293a46ab5655debf32f2a24153fde03c413672", func := "ferrybridge/ferrybridgelaw19.CloseEnds", spec := "closeEnds", named := ["ferrybridge/close.moves"], apart := false, laid := [("ferrybridge/close.moves", laid_ferrybridge_close_moves)] }
def CloseEndsSaid : Prop := closeEndsRow.holds Tryd.pinned (OpenSpec.ofChange closeEndsSpec)

/-- ITS FALSE NEIGHBOUR: 'it returns false'. Refute it at one input. -/
def closeEndsWrong : ChangeSpec := { name := "closeEnds", fn := fun _ => fun
  | [d1, d2] => { results := [.lit (.bool false)], args := [d1, d2] }
  | _ => none }
def CloseEndsWrongFalsely : Prop := closeEndsRow.holds Tryd.pinned (OpenSpec.ofChange closeEndsWrong)

/- THE SECOND FORM. 'bulk': how many values and letters a reading holds, each counted each time it is reached (what is shared counts as often as it is met; a slice's spare places count too). A statement '..UptoSaid' is the law's where the arguments, and the package variables that the reading takes, are together of bulk at most 1048576: NARROWER than '..Said'. Prove '..Said' where nothing that the law and all that it calls make is longer than what came in: it says more and counts as full. Else prove '..UptoSaid'. A law counts once. -/
mutual
def uptoBulk {H : Type} : DataW H → Nat
  | .lit (.string bytes) => bytes.length + 1
  | .lit _ => 1
  | .nil => 1
  | .ptr d => uptoBulk d + 1
  | .slice elems spare => uptoBulkAll elems + uptoBulkAll spare + 1
  | .agg parts => uptoBulkAll parts + 1
  | .iface _ d => uptoBulk d + 1
  | .map entries => uptoBulkEntries entries + 1
  | .held _ => 1
def uptoBulkAll {H : Type} : List (DataW H) → Nat
  | [] => 0
  | d :: r => uptoBulk d + uptoBulkAll r
def uptoBulkEntries {H : Type} : List (Lit × DataW H) → Nat
  | [] => 0
  | x :: r => uptoBulkEntry x + uptoBulkEntries r
def uptoBulkEntry {H : Type} : Lit × DataW H → Nat
  | (.string bytes, d) => bytes.length + uptoBulk d + 1
  | (_, d) => uptoBulk d + 1
 end
def uptoSmall : (H : Type) → List (DataW H) → Bool := fun _ ds => decide (uptoBulkAll ds ≤ 1048576)
def OpenSpec.upto (s : _root_.Go.ChangeSpec) : _root_.Go.OpenSpec := { _root_.Go.OpenSpec.ofChange s with cond := some uptoSmall }

/-- 'ferrybridgelaw19.CloseSteps', WHERE WHAT IT READS IS OF BULK AT MOST 1048576: true; the input reads as it did. -/
def closeStepsUptoRow : OpenClaim := { program := "ytbhledflfejdmaadoor", sum := "f48d1ff92d9fd46c4301e32448293a46ab5655debf32f2a24153fde03c413672", func := "ferrybridge/ferrybridgelaw19.CloseSteps", spec := "closeSteps", named := ["ferrybridge/close.moves"], apart := false, laid := [("ferrybridge/close.moves", laid_ferrybridge_close_moves)], narrowed := true }
def CloseStepsUptoSaid : Prop := closeStepsUptoRow.holds Tryd.pinned (OpenSpec.upto closeStepsSpec)

/-- 'ferrybridgelaw19.CloseSides', WHERE WHAT IT READS IS OF BULK AT MOST 1048576: true; the input reads as it did. -/
def closeSidesUptoRow : OpenClaim := { program := "ytbhledflfejdmaadoor", sum := "f48d1ff92d9fd46c4301e32448293a46ab5655debf32f2a24153fde03c413672", func := "ferrybridge/ferrybridgelaw19.CloseSides", spec := "closeSides", named := ["ferrybridge/close.moves"], apart := false, laid := [("ferrybridge/close.moves", laid_ferrybridge_close_moves)], narrowed := true }
def CloseSidesUptoSaid : Prop := closeSidesUptoRow.holds Tryd.pinned (OpenSpec.upto closeSidesSpec)

/-- 'ferrybridgelaw19.ClosePaths', WHERE WHAT IT READS IS OF BULK AT MOST 1048576: true; the input reads as it did. -/
def closePathsUptoRow : OpenClaim := { program := "ytbhledflfejdmaadoor", sum := "f48d1ff92d9fd46c4301e32448293a46ab5655debf32f2a24153fde03c413672", func := "ferrybridge/ferrybridgelaw19.ClosePaths", spec := "closePaths", named := ["ferrybridge/close.moves"], apart := false, laid := [("ferrybridge/close.moves", laid_ferrybridge_close_moves)], narrowed := true }
def ClosePathsUptoSaid : Prop := closePathsUptoRow.holds Tryd.pinned (OpenSpec.upto closePathsSpec)

/-- 'ferrybridgelaw19.CloseEnds', WHERE WHAT IT READS IS OF BULK AT MOST 1048576: true; the input reads as it did. -/
def closeEndsUptoRow : OpenClaim := { program := "ytbhledflfejdmaadoor", sum := "f48d1ff92d9fd46c4301e32448293a46ab5655debf32f2a24153fde03c413672", func := "ferrybridge/ferrybridgelaw19.CloseEnds", spec := "closeEnds", named := ["ferrybridge/close.moves"], apart := false, laid := [("ferrybridge/close.moves", laid_ferrybridge_close_moves)], narrowed := true }
def CloseEndsUptoSaid : Prop := closeEndsUptoRow.holds Tryd.pinned (OpenSpec.upto closeEndsSpec)

end Rows
end Go.Proofs.YtbhledflfejdmaaDoor
