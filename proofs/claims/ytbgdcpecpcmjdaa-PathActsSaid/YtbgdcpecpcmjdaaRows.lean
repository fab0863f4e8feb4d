/-
  No cell of these rows narrows 'for every input' (looked for: loops, veiled, ifaces, maps, wideKeys, modest, calm, conditions, laid).
  DERIVED. THE GIVEN ROWS OF THIS SEAT. 4 by the template 'for every input the law returns true; each argument reads behind the call as it read before'; 0 by the template 'total and deterministic' (their statements: YtbgdcpecpcmjdaaTotals.lean).
  GIVEN WITH THE SEED: the statements are not yours to turn. If you find one false, say at which input.
  Laid BY PROGRAM, IN A SANDBOX (cutbox-rows.mjs): the forced cells as the released guide's own fill.sh prints them over the translation 71427b960c31fefe… (all of the seat's roots in one cut). By AI agents, Wed Nov 11 2026. No macro, syntax, notation, axiom, sorry.
-/
import Derived.Test.YtbgdcpecpcmjdaaChecked
import GoSem.Claim
import GoSem.ClaimJoined
import GoSem.ClaimMapViews
import Derived.JoinedTies
import Derived.KernelRfl
namespace Go.Proofs.Ytbgdcpecpcmjdaa
/- THE CELL 'sum', in the pinned program and in every row, IS THE sha256 OF THE DUMP (.gsa) THAT YtbgdcpecpcmjdaaProg.lean LOADS. Nothing in Lean hashes anything: it is a label: what it is worth is what the hold of that sum in a sandbox is worth. -/
noncomputable def Try.pinned : Pinned := { name := "ytbgdcpecpcmjdaa", sum := "71427b960c31fefee3b02c4579a5f7390fd05cb614a87a9cccfc24ce0dba4ae8", checked := Try.checked }
namespace Rows
def none {H : Type} : Left H := { results := [], args := [] }

/-- 'ferrybridgelaw18.PathJoins': WHATEVER THE INPUT: true; the input reads as it did. -/
def pathJoinsSpec : ChangeSpec := { name := "pathJoins", fn := fun _ => fun
  | [d1, d2, d3] => { results := [.lit (.bool true)], args := [d1, d2, d3] }
  | _ => none }
def pathJoinsRow : OpenClaim := { program := "ytbgdcpecpcmjdaa", sum := "71427b960c31fefee3b02c4579a5f7390fd05cb614a87a9cccfc24ce0dba4ae8", func := "ferrybridge/ferrybridgelaw18.PathJoins", spec := "pathJoins", apart := false }
def PathJoinsSaid : Prop := pathJoinsRow.holds Try.pinned (OpenSpec.ofChange pathJoinsSpec)

/-- ITS FALSE NEIGHBOUR: 'it returns false'. Refute it at one input. -/
def pathJoinsWrong : ChangeSpec := { name := "pathJoins", fn := fun _ => fun
  | [d1, d2, d3] => { results := [.lit (.bool false)], args := [d1, d2, d3] }
  | _ => none }
def PathJoinsWrongFalsely : Prop := pathJoinsRow.holds Try.pinned (OpenSpec.ofChange pathJoinsWrong)

/-- 'ferrybridgelaw18.PathTwice': WHATEVER THE INPUT: true; the input reads as it did. -/
def pathTwiceSpec : ChangeSpec := { name := "pathTwice", fn := fun _ => fun
  | [d1, d2] => { results := [.lit (.bool true)], args := [d1, d2] }
  | _ => none }
def pathTwiceRow : OpenClaim := { program := "ytbgdcpecpcmjdaa", sum := "71427b960c31fefee3b02c4579a5f7390fd05cb614a87a9cccfc24ce0dba4ae8", func := "ferrybridge/ferrybridgelaw18.PathTwice", spec := "pathTwice", apart := false }
def PathTwiceSaid : Prop := pathTwiceRow.holds Try.pinned (OpenSpec.ofChange pathTwiceSpec)

/-- ITS FALSE NEIGHBOUR: 'it returns false'. Refute it at one input. -/
def pathTwiceWrong : ChangeSpec := { name := "pathTwice", fn := fun _ => fun
  | [d1, d2] => { results := [.lit (.bool false)], args := [d1, d2] }
  | _ => none }
def PathTwiceWrongFalsely : Prop := pathTwiceRow.holds Try.pinned (OpenSpec.ofChange pathTwiceWrong)

/-- 'ferrybridgelaw18.PathActs': WHATEVER THE INPUT: true; the input reads as it did. -/
def pathActsSpec : ChangeSpec := { name := "pathActs", fn := fun _ => fun
  | [d1, d2] => { results := [.lit (.bool true)], args := [d1, d2] }
  | _ => none }
def pathActsRow : OpenClaim := { program := "ytbgdcpecpcmjdaa", sum := "71427b960c31fefee3b02c4579a5f7390fd05cb614a87a9cccfc24ce0dba4ae8", func := "ferrybridge/ferrybridgelaw18.PathActs", spec := "pathActs", apart := false }
def PathActsSaid : Prop := pathActsRow.holds Try.pinned (OpenSpec.ofChange pathActsSpec)

/-- ITS FALSE NEIGHBOUR: 'it returns false'. Refute it at one input. -/
def pathActsWrong : ChangeSpec := { name := "pathActs", fn := fun _ => fun
  | [d1, d2] => { results := [.lit (.bool false)], args := [d1, d2] }
  | _ => none }
def PathActsWrongFalsely : Prop := pathActsRow.holds Try.pinned (OpenSpec.ofChange pathActsWrong)

/-- 'ferrybridgelaw18.PathNil': WHATEVER THE INPUT: true; the input reads as it did. -/
def pathNilSpec : ChangeSpec := { name := "pathNil", fn := fun _ => fun
  | [d1, d2] => { results := [.lit (.bool true)], args := [d1, d2] }
  | _ => none }
def pathNilRow : OpenClaim := { program := "ytbgdcpecpcmjdaa", sum := "71427b960c31fefee3b02c4579a5f7390fd05cb614a87a9cccfc24ce0dba4ae8", func := "ferrybridge/ferrybridgelaw18.PathNil", spec := "pathNil", apart := false }
def PathNilSaid : Prop := pathNilRow.holds Try.pinned (OpenSpec.ofChange pathNilSpec)

/-- ITS FALSE NEIGHBOUR: 'it returns false'. Refute it at one input. -/
def pathNilWrong : ChangeSpec := { name := "pathNil", fn := fun _ => fun
  | [d1, d2] => { results := [.lit (.bool false)], args := [d1, d2] }
  | _ => none }
def PathNilWrongFalsely : Prop := pathNilRow.holds Try.pinned (OpenSpec.ofChange pathNilWrong)

/- THE SECOND FORM. 'bulk': how many values and letters a reading holds, each counted each time it is reached (what is shared counts as often as it is met; a slice's spare places count too). A statement '..UptoSaid' is the law's where the arguments, and the package variables that the reading takes, are together of bulk at most 1048576: NARROWER than '..Said'. Prove '..Said' where nothing that the law and all that it calls make is longer than what came in: it says more and counts as full. Else prove '..UptoSaid'. A law counts once. -/
mutual
def uptoBulk {H : Type} : DataW H → Nat
  | .lit (.string bytes) => bytes.length + 1
  | .lit _ => 1
  | .nil => 1
  | .ptr d => uptoBulk d + 1
  | .slice elems spare => uptoBulkAll elems + uptoBulkAll spare + 1
  | .agg parts => uptoBulkAll parts + 1
  | .iface _ d => uptoBulk d + 1
  | .map entries => uptoBulkEntries entries + 1
  | .held _ => 1
def uptoBulkAll {H : Type} : List (DataW H) → Nat
  | [] => 0
  | d :: r => uptoBulk d + uptoBulkAll r
def uptoBulkEntries {H : Type} : List (Lit × DataW H) → Nat
  | [] => 0
  | x :: r => uptoBulkEntry x + uptoBulkEntries r
def uptoBulkEntry {H : Type} : Lit × DataW H → Nat
  | (.string bytes, d) => bytes.length + uptoBulk d + 1
  | (_, d) => uptoBulk d + 1
 end
def uptoSmall : (H : Type) → List (DataW H) → Bool := fun _ ds => decide (uptoBulkAll ds ≤ 1048576)
def OpenSpec.upto (s : _root_.Go.ChangeSpec) : _root_.Go.OpenSpec := { _root_.Go.OpenSpec.ofChange s with cond := some uptoSmall }

/-- 'ferrybridgelaw18.PathJoins', WHERE WHAT IT READS IS OF BULK AT MOST 1048576: true; the input reads as it did. -/
def pathJoinsUptoRow : OpenClaim := { program := "ytbgdcpecpcmjdaa", sum := "71427b960c31fefee3b02c4579a5f7390fd05cb614a87a9cccfc24ce0dba4ae8", func := "ferrybridge/ferrybridgelaw18.PathJoins", spec := "pathJoins", apart := false, narrowed := true }
def PathJoinsUptoSaid : Prop := pathJoinsUptoRow.holds Try.pinned (OpenSpec.upto pathJoinsSpec)

/-- 'ferrybridgelaw18.PathTwice', WHERE WHAT IT READS IS OF BULK AT MOST 1048576: true; the input reads as it did. -/
def pathTwiceUptoRow : OpenClaim := { program := "ytbgdcpecpcmjdaa", sum := "71427b960c31fefee3b02c4579a5f7390fd05cb614a87a9cccfc24ce0dba4ae8", func := "ferrybridge/ferrybridgelaw18.PathTwice", spec := "pathTwice", apart := false, narrowed := true }
def PathTwiceUptoSaid : Prop := pathTwiceUptoRow.holds Try.pinned (OpenSpec.upto pathTwiceSpec)

/-- 'ferrybridgelaw18.PathActs', WHERE WHAT IT READS IS OF BULK AT MOST 1048576: true; the input reads as it did. -/
def pathActsUptoRow : OpenClaim := { program := "ytbgdcpecpcmjdaa", sum := "71427b960c31fefee3b02c4579a5f7390fd05cb614a87a9cccfc24ce0dba4ae8", func := "ferrybridge/ferrybridgelaw18.PathActs", spec := "pathActs", apart := false, narrowed := true }
def PathActsUptoSaid : Prop := pathActsUptoRow.holds Try.pinned (OpenSpec.upto pathActsSpec)

/-- 'ferrybridgelaw18.PathNil', WHERE WHAT IT READS IS OF BULK AT MOST 1048576: true; the input reads as it did. -/
def pathNilUptoRow : OpenClaim := { program := "ytbgdcpecpcmjdaa", sum := "71427b960c31fefee3b02c4579a5f7390fd05cb614a87a9cccfc24ce0dba4ae8", func := "ferrybridge/ferrybridgelaw18.PathNil", spec := "pathNil", apart := false, narrowed := true }
def PathNilUptoSaid : Prop := pathNilUptoRow.holds Try.pinned (OpenSpec.upto pathNilSpec)

end Rows
end Go.Proofs.Ytbgdcpecpcmjdaa
